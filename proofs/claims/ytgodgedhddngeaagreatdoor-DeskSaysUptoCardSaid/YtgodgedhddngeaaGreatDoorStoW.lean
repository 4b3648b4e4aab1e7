/- The store: may a record be told? Walks of store.right and of the document's Line. -/
import Derived.Test.YtgodgedhddngeaaGreatDoorStoF
import Derived.Test.YtgodgedhddngeaaGreatDoorStoP
import Derived.Test.YtgodgedhddngeaaGreatDoorPupBox
import Derived.Test.YtgodgedhddngeaaGreatDoorDigN
import Derived.Laws.EntriesVeiled
import Derived.Deep.DeepCutAuto
import Derived.Deep.CutBlock
import Derived.Lib.QuietBelow
set_option maxRecDepth 100000
set_option maxHeartbeats 16000000
namespace Go.Proofs.YtgodgedhddngeaaGreatDoor
open Go.RowKit Pl
def smB (n : Int) : Bool := decide (0 ≤ n) && decide (n ≤ 99)
theorem sto_small (n : Int) (w : World) : Calls Tryz.prog 118 #[.int .i64 n] w fun e w' => e = .returned (.bool (smB n)) ∧ w' = w := by
 by_cases h0 : 0 ≤ n
 ·by_cases h1 : n ≤ 99
  ·have F : smB n = true := by unfold smB; simp [h0, h1]
   rw [F]
   go_enter Tryz.func118, Tryz.ntmps118
   go_wp2
   go_ret
   exact ⟨rfl, rfl⟩
  ·have F : smB n = false := by unfold smB; simp [h0, h1]
   rw [F]
   go_enter Tryz.func118, Tryz.ntmps118
   go_wp2
   go_ret
   exact ⟨rfl, rfl⟩
 ·have F : smB n = false := by unfold smB; simp [h0]
  rw [F]
  go_enter Tryz.func118, Tryz.ntmps118
  go_wp2
  go_ret
  exact ⟨rfl, rfl⟩
theorem sto_big (n : Int) (q : Nat) (w : World) (hq : w.cell? ⟨q, 0, none⟩ = some (.func (.func 118) #[] #[])) :
  Calls Tryz.prog 119 #[.int .i64 n, .pointer (some ⟨q, 0, none⟩)] w fun e w' => e = .returned (.bool (!smB n)) ∧ w' = w := by
 go_enter Tryz.func119, Tryz.ntmps119
 go_wp2_with (go_at_call 118; refine (sto_small n _).mono ?_; rintro e w' ⟨rfl, rfl⟩)
 go_ret
 exact ⟨rfl, rfl⟩
theorem any_take (xs : List Int) (p : Int → Bool) (n : Nat) (hl : xs.length = n) (h : ∀ j, j < n → p (at0 xs j) = false) : xs.any p = false := by
 rw [List.any_eq_false]
 intro x hx
 obtain ⟨j, hj, e⟩ := List.mem_iff_getElem.1 hx
 have := h j (by omega)
 unfold at0 at this
 rw [List.getElem?_eq_getElem hj] at this
 simp only [Option.getD_some] at this
 rw [← e, this]
 simp
theorem any_hit (xs : List Int) (p : Int → Bool) (n j : Nat) (hl : xs.length = n) (hj : j < n) (h : p (at0 xs j) = true) : xs.any p = true := by
 rw [List.any_eq_true]
 unfold at0 at h
 rw [List.getElem?_eq_getElem (by omega)] at h
 exact ⟨_, List.getElem_mem _, h⟩
theorem sto_index (A : Option Addr) (m c : Nat) (xs : List Int) (q : Nat) (w : World) (hx : Ints .i64 w A m xs) (hm : m ≤ 9223372036854775807) (hq : w.cell? ⟨q, 0, none⟩ = some (.func (.func 118) #[] #[])) :
  Calls Tryz.prog 166 #[.slice A m c, .func (.func 119) #[] #[.pointer (some ⟨q, 0, none⟩)]] w fun e w' => ∃ r : Int, e = .returned (.int .i64 r) ∧ decide (0 ≤ r) = xs.any (fun n => !smB n) ∧ w' = w := by
 have HC := Lib.hid (fun n => sto_big n q w hq)
 have HA := Lib.hid (any_take xs (fun n => !smB n) m hx.len)
 have HH := Lib.hid (fun j hj h => any_hit xs (fun n => !smB n) m j hx.len hj h)
 clear hq
 go_enter Tryz.func166, Tryz.ntmps166
 go_wp2
 go_loopw [5, 8] (fun _ i wr => ∃ k : Nat, k ≤ m ∧ i = .int .i64 k ∧ wr = w ∧ ∀ j, j < k → (!smB (at0 xs j)) = false) (fun _ i _ => m - (intOf i).toNat)
 case atStart => exact ⟨0, Nat.zero_le _, rfl, rfl, fun j hj => absurd hj (by omega)⟩
 case round =>
  obtain ⟨k, hk, rfl, hwr, hall⟩ := hrel
  have HALL := Lib.hid hall
  clear hall
  by_cases hlt : k < m
  ·obtain ⟨b, off, rfl, hbl, hc⟩ := hx.cells (by omega)
   have g1 := hc k hlt
   have HHk := Lib.hid (HH.out k hlt)
   obtain ⟨y, hy⟩ : ∃ y, y = at0 xs k := ⟨_, rfl⟩
   rw [← hy] at g1 HHk
   have HY := Lib.hid hy
   subst hwr
   clear hc hy
   have HCy := HC.out y
   cases hs : smB y
   ·rw [hs] at HCy
    have HR := Lib.hid (HHk.out (by rw [hs]; rfl))
    clear hs
    go_wp2_with (go_at_call 119; refine HCy.mono ?_; rintro e w1 ⟨rfl, rfl⟩)
    go_ret
    exact ⟨k, rfl, by rw [HR.out]; simp, rfl⟩
   ·rw [hs] at HCy
    have HS := Lib.hid hs
    clear hs
    go_wp2_with (go_at_call 119; refine HCy.mono ?_; rintro e w1 ⟨rfl, rfl⟩)
    go_roundw
    case rel =>
     refine ⟨k + 1, by omega, by go_num, by simp, fun j hj => ?_⟩
     by_cases hjk : j = k
     ·subst hjk; rw [← HY.out, HS.out]; rfl
     ·exact HALL.out j (by omega)
    case measure => simp [intOf]; omega
  ·obtain rfl : k = m := by omega
   have HR := Lib.hid (HA.out HALL.out)
   subst hwr
   go_wp2
   go_ret
   exact ⟨-1, rfl, by rw [HR.out]; rfl, rfl⟩
theorem sto_contains (A : Option Addr) (m c : Nat) (xs : List Int) (q : Nat) (w : World) (hx : Ints .i64 w A m xs) (hm : m ≤ 9223372036854775807) (hq : w.cell? ⟨q, 0, none⟩ = some (.func (.func 118) #[] #[])) (b : Bool) (hb : (xs.any fun n => !smB n) = b) :
  Calls Tryz.prog 116 #[.slice A m c, .func (.func 119) #[] #[.pointer (some ⟨q, 0, none⟩)]] w fun e w' => e = .returned (.bool b) ∧ w' = w := by
 have H := Lib.hid (sto_index A m c xs q w hx hm hq)
 have HB := Lib.hid hb
 clear hx hq hb
 go_enter Tryz.func116, Tryz.ntmps116
 go_wp2_with (go_at_call 166; refine H.out.mono ?_; rintro e w1 ⟨r, rfl, hr, rfl⟩; rw [HB.out] at hr)
 go_ret
 exact ⟨rfl, rfl⟩
theorem all_any (xs : List Int) : (xs.all fun n => decide (0 ≤ n) && decide (n ≤ 99)) = !(xs.any fun n => !smB n) := by
 rw [List.not_any_eq_all_not]
 simp [smB]
theorem sto_right (r : Rec) (A : Option Addr) (n k : Nat) (w : World) (hx : Ints .i64 w A n r.batch) (hn : n ≤ 9223372036854775807) (b0 : 0 ≤ r.root) (b1 : 0 ≤ r.chain) :
  Calls Tryz.prog 78 #[.agg #[.int .i64 r.step, .slice A n k, .int .i64 r.rate, .int .u64 r.root, .int .u64 r.chain]] w fun e w' => e = .returned (.bool (goodR r)) ∧ Below w.heap.size w w' := by
 have bw : Below w.heap.size w ((w.alloc (.cells #[.int .i64 r.step, .slice A n k, .int .i64 r.rate, .int .u64 r.root, .int .u64 r.chain] 90)).alloc (.cells #[.func (.func 118) #[] #[]] 163)) := (by repeat (first | exact Below.refl _ _ | assumption | refine bel_drewN ?_ _ | refine Below.drew ?_ | (refine Below.alloc ?_ (by simp <;> omega) _) | (refine Below.setCell ?_ (by simp <;> omega) _)))
 have hl := hx.len
 have hx2 := (hx.alloc (.cells #[.int .i64 r.step, .slice A n k, .int .i64 r.rate, .int .u64 r.root, .int .u64 r.chain] 90)).alloc (.cells #[.func (.func 118) #[] #[]] 163)
 have HCN := Lib.hid (fun b hb => sto_contains A n k r.batch (w.heap.size + 1) _ hx2 hn (by
  have h := (Blk.made' (w.alloc (.cells #[.int .i64 r.step, .slice A n k, .int .i64 r.rate, .int .u64 r.root, .int .u64 r.chain] 90)) 163 #[.func (.func 118) #[] #[]] (g := w.heap.size + 1) (by simp)).cell 0
  exact h) b hb)
 clear hx hx2
 go_enter Tryz.func78, Tryz.ntmps78
 cases qs : smB r.step
 ·have F : goodR r = false := by
   unfold smB at qs
   unfold goodR
   rw [qs]
   rfl
  rw [F]
  have HS := Lib.hid (fun W => by have h := sto_small r.step W; rw [qs] at h; exact h)
  clear F qs
  go_wp2_with (go_at_call 118; refine (HS.out _).mono ?_; rintro e w' ⟨rfl, rfl⟩)
  go_ret
  exact ⟨rfl, bw⟩
 ·have HS := Lib.hid (fun W => by have h := sto_small r.step W; rw [qs] at h; exact h)
  have QS := Lib.hid (show decide (0 ≤ r.step) = true ∧ decide (r.step ≤ 99) = true from by unfold smB at qs; simpa only [Bool.and_eq_true] using qs)
  clear qs
  by_cases h1 : 0 ≤ r.rate
  ·by_cases h2 : r.rate ≤ 2147483647
   ·by_cases h3 : r.root < 2305843009213693951
    ·by_cases h4 : r.chain < 2305843009213693951
     ·by_cases h5 : (n : Int) ≤ 8
      ·have h5' : r.batch.length ≤ 8 := by omega
       cases hc : (r.batch.any fun n => !smB n)
       ·have F : goodR r = true := by
         unfold goodR
         rw [all_any, hc, QS.out.1, QS.out.2]
         simp [h1, h2, h3, h4, h5', b0, b1, pS]
        rw [F]
        have HC := Lib.hid (HCN.out false hc)
        clear F hc HCN hl
        go_wp2_with (first | (go_at_call 118; refine (HS.out _).mono ?_; rintro e w' ⟨rfl, rfl⟩) | (go_at_call 116; refine HC.out.mono ?_; rintro e w' ⟨rfl, rfl⟩))
        go_ret
        exact ⟨rfl, bw⟩
       ·have F : goodR r = false := by
         unfold goodR
         rw [all_any, hc]
         simp
        rw [F]
        have HC := Lib.hid (HCN.out true hc)
        clear F hc HCN hl
        go_wp2_with (first | (go_at_call 118; refine (HS.out _).mono ?_; rintro e w' ⟨rfl, rfl⟩) | (go_at_call 116; refine HC.out.mono ?_; rintro e w' ⟨rfl, rfl⟩))
        go_ret
        exact ⟨rfl, bw⟩
      ·have F : goodR r = false := by
        unfold goodR
        simp [show ¬ r.batch.length ≤ 8 from by omega, pS]
       rw [F]
       clear F HCN
       go_wp2_with (go_at_call 118; refine (HS.out _).mono ?_; rintro e w' ⟨rfl, rfl⟩)
       go_ret
       exact ⟨rfl, bw⟩
     ·have F : goodR r = false := by
       unfold goodR
       simp [h4, pS]
      rw [F]
      clear F HCN
      go_wp2_with (go_at_call 118; refine (HS.out _).mono ?_; rintro e w' ⟨rfl, rfl⟩)
      go_ret
      exact ⟨rfl, bw⟩
    ·have F : goodR r = false := by
      unfold goodR
      simp [h3, pS]
     rw [F]
     clear F HCN
     go_wp2_with (go_at_call 118; refine (HS.out _).mono ?_; rintro e w' ⟨rfl, rfl⟩)
     go_ret
     exact ⟨rfl, bw⟩
   ·have F : goodR r = false := by
     unfold goodR
     simp [h2, pS]
    rw [F]
    clear F HCN
    go_wp2_with (go_at_call 118; refine (HS.out _).mono ?_; rintro e w' ⟨rfl, rfl⟩)
    go_ret
    exact ⟨rfl, bw⟩
  ·have F : goodR r = false := by
    unfold goodR
    simp [h1, pS]
   rw [F]
   clear F HCN
   go_wp2_with (go_at_call 118; refine (HS.out _).mono ?_; rintro e w' ⟨rfl, rfl⟩)
   go_ret
   exact ⟨rfl, bw⟩
def g0R (r : Rec) : Bool := decide (0 ≤ r.step) && decide (r.step ≤ 99) && decide (0 ≤ r.rate) && decide (r.rate ≤ 2147483647) && decide (r.root < pS) && decide (r.chain < pS) && decide (r.batch.length ≤ 8)
def gR (r : Rec) (k : Nat) : Bool := g0R r && (r.batch.take k).all fun n => inB n 0 99
theorem gR_succ (r : Rec) {k : Nat} (h : k < r.batch.length) : gR r (k + 1) = (gR r k && inB (at0 r.batch k) 0 99) := by
 unfold gR at0
 rw [List.take_add_one, List.getElem?_eq_getElem h, List.all_append]
 simp [Bool.and_assoc]
theorem gR_end (r : Rec) {n : Nat} (h : r.batch.length = n) (b0 : 0 ≤ r.root) (b1 : 0 ≤ r.chain) : gR r n = goodR r := by
 unfold gR goodR g0R inB
 rw [List.take_of_length_le (by omega), decide_eq_true b0, decide_eq_true b1]
 simp only [Bool.and_true, Bool.decide_and]
theorem ref_Line (r : Rec) (A : Option Addr) (n k : Nat) (w : World) (hx : Ints .i64 w A n r.batch) (hn : n ≤ 9223372036854775807) (b0 : 0 ≤ r.root) (b1 : 0 ≤ r.chain) :
  Calls Tryz.prog 94 #[.agg #[.int .i64 r.step, .slice A n k, .int .i64 r.rate, .int .u64 r.root, .int .u64 r.chain]] w fun e w' => e = .returned (.bool (goodR r)) ∧ Below w.heap.size w w' := by
 obtain ⟨w1, hw1⟩ : ∃ w1, w1 = w.alloc (.cells #[.int .i64 r.step, .slice A n k, .int .i64 r.rate, .int .u64 r.root, .int .u64 r.chain] 90) := ⟨_, rfl⟩
 have bw : Below w.heap.size w w1 := by rw [hw1]; exact (by repeat (first | exact Below.refl _ _ | assumption | refine bel_drewN ?_ _ | refine Below.drew ?_ | (refine Below.alloc ?_ (by simp <;> omega) _) | (refine Below.setCell ?_ (by simp <;> omega) _)))
 have HB : Blk w1 w.heap.size 90 #[.int .i64 r.step, .slice A n k, .int .i64 r.rate, .int .u64 r.root, .int .u64 r.chain] := by rw [hw1]; exact Blk.made w _ _
 have hx1 : Ints .i64 w1 A n r.batch := hx.below bw
 have hl := hx.len
 have HE := Lib.hid (gR_end r hl b0 b1)
 have HG0 := Lib.hid (show gR r 0 = g0R r from by unfold gR; simp)
 have HGS := Lib.hid (fun k (h : k < n) => gR_succ r (show k < r.batch.length by omega))
 rw [← HE.out]
 have HW := Lib.hid hw1
 clear hw1 hx
 go_enter Tryz.func94, Tryz.ntmps94
 go_upto_region 1 with fail
 rw [← HW.out]
 have c0 : w1.cell? ⟨w.heap.size, 0, none⟩ = some (.int .i64 r.step) := HB.cell 0
 have c1 : w1.cell? ⟨w.heap.size, 1, none⟩ = some (.slice A n k) := HB.cell 1
 have c2 : w1.cell? ⟨w.heap.size, 2, none⟩ = some (.int .i64 r.rate) := HB.cell 2
 have c3 : w1.cell? ⟨w.heap.size, 3, none⟩ = some (.int .u64 r.root) := HB.cell 3
 have c4 : w1.cell? ⟨w.heap.size, 4, none⟩ = some (.int .u64 r.chain) := HB.cell 4
 clear HW HB
 go_cut [3] (fun v wx => v = .bool (g0R r) ∧ wx = w1)
 case first =>
  cases qs : inB r.step 0 99
  ·have HS := Lib.hid (fun W => by have h := ref_In r.step 0 99 W; rw [qs] at h; exact h)
   have F : g0R r = false := by
    unfold inB at qs
    unfold g0R
    rw [Bool.decide_and] at qs
    rw [qs]
    rfl
   have HF := Lib.hid F
   clear F qs
   go_wp2_with fail
   refine (HS.out _).mono ?_
   rintro e w' ⟨rfl, rfl⟩
   go_wp2
   go_meet
   case rel => exact ⟨by rw [HF.out], rfl⟩
  ·have HS := Lib.hid (fun W => by have h := ref_In r.step 0 99 W; rw [qs] at h; exact h)
   have QS := Lib.hid (show decide (0 ≤ r.step) = true ∧ decide (r.step ≤ 99) = true from by unfold inB at qs; rw [Bool.decide_and, Bool.and_eq_true] at qs; exact qs)
   clear qs
   go_wp2_with fail
   refine (HS.out _).mono ?_
   rintro e w' ⟨rfl, rfl⟩
   cases qr : inB r.rate 0 2147483647
   ·have HR := Lib.hid (fun W => by have h := ref_In r.rate 0 2147483647 W; rw [qr] at h; exact h)
    have F : g0R r = false := by
     unfold inB at qr
     unfold g0R
     rw [Bool.decide_and] at qr
     rw [QS.out.1, QS.out.2, Bool.true_and, Bool.true_and, qr]
     rfl
    have HF := Lib.hid F
    clear F qr
    go_wp2_with fail
    refine (HR.out _).mono ?_
    rintro e w' ⟨rfl, rfl⟩
    go_wp2
    go_meet
    case rel => exact ⟨by rw [HF.out], rfl⟩
   ·have HR := Lib.hid (fun W => by have h := ref_In r.rate 0 2147483647 W; rw [qr] at h; exact h)
    have QR := Lib.hid (show decide (0 ≤ r.rate) = true ∧ decide (r.rate ≤ 2147483647) = true from by unfold inB at qr; rw [Bool.decide_and, Bool.and_eq_true] at qr; exact qr)
    clear qr
    go_wp2_with fail
    refine (HR.out _).mono ?_
    rintro e w' ⟨rfl, rfl⟩
    by_cases h3 : r.root < 2305843009213693951
    ·by_cases h4 : r.chain < 2305843009213693951
     ·by_cases h5 : (n : Int) ≤ 8
      ·have h5' : r.batch.length ≤ 8 := by omega
       have F : g0R r = true := by
        unfold g0R
        simp [h3, h4, h5', pS, of_decide_eq_true QS.out.1, of_decide_eq_true QS.out.2, of_decide_eq_true QR.out.1, of_decide_eq_true QR.out.2]
       have HF := Lib.hid F
       clear F
       go_wp2
       go_meet
       case rel => exact ⟨by rw [HF.out], rfl⟩
      ·have h5' : ¬ r.batch.length ≤ 8 := by omega
       have F : g0R r = false := by
        unfold g0R
        simp [h5']
       have HF := Lib.hid F
       clear F
       go_wp2
       go_meet
       case rel => exact ⟨by rw [HF.out, decide_eq_false (by omega)], rfl⟩
     ·have F : g0R r = false := by
       unfold g0R
       simp [h4, pS]
      have HF := Lib.hid F
      clear F
      go_wp2
      go_meet
      case rel => exact ⟨by rw [HF.out], rfl⟩
    ·have F : g0R r = false := by
      unfold g0R
      simp [h3, pS]
     have HF := Lib.hid F
     clear F
     go_wp2
     go_meet
     case rel => exact ⟨by rw [HF.out], rfl⟩
 case rest =>
  obtain ⟨rfl, rfl⟩ := hcut
  obtain ⟨g, hg⟩ : ∃ g : Nat → Bool, g = gR r := ⟨_, rfl⟩
  rw [← HG0.out]
  rw [← hg] at HGS ⊢
  clear HG0 HE hl
  go_wp2
  go_loopw [3, 4] (fun ok i wr => ∃ q : Nat, q ≤ n ∧ i = .int .i64 q ∧ ok = .bool (g q) ∧ wr = wc) (fun _ i _ => n - (intOf i).toNat)
  case atStart => exact ⟨0, by omega, rfl, rfl, rfl⟩
  case round =>
   obtain ⟨q, hq, rfl, rfl, hwr⟩ := hrel
   subst hwr
   by_cases hlt : q < n
   ·obtain ⟨b, off, rfl, hbl, hc⟩ := hx1.cells (by omega)
    have g1 := hc q hlt
    have HG := Lib.hid (HGS.out q hlt)
    obtain ⟨y, hy⟩ : ∃ y, y = at0 r.batch q := ⟨_, rfl⟩
    rw [← hy] at g1 HG
    clear hc hy
    obtain ⟨gq, hgq⟩ : ∃ x, x = g q := ⟨_, rfl⟩
    rw [← hgq] at HG ⊢
    clear hgq
    cases gq
    ·go_wp2
     go_roundw
     case rel => exact ⟨q + 1, by omega, by go_num, by rw [HG.out]; rfl, by simp⟩
     case measure => simp [intOf]; omega
    ·obtain ⟨bq, hbq⟩ : ∃ x, x = inB y 0 99 := ⟨_, rfl⟩
     have HI := Lib.hid (fun W => by have h := ref_In y 0 99 W; rw [← hbq] at h; exact h)
     rw [← hbq] at HG
     clear hbq
     go_wp2_with (go_at_call 58; refine (HI.out _).mono ?_; rintro e w' ⟨rfl, rfl⟩)
     go_roundw
     case rel => exact ⟨q + 1, by omega, by go_num, by rw [HG.out]; rfl, by simp⟩
     case measure => simp [intOf]; omega
   ·obtain rfl : q = n := by omega
    go_wp2
    go_ret
    rw [hg]
    exact ⟨rfl, bw⟩
end Go.Proofs.YtgodgedhddngeaaGreatDoor
namespace Go.Proofs.YtgodgedhddngeaaGreatDoor
open Go.RowKit Go.Sort Pl
theorem str_info : (Tryz.prog.info? 9).map (fun i => (i.zero, i.size, i.bytes)) = some (some (.string ByteArray.empty), 1, 16) := by kernel_rfl
def bytesOf (l : List UInt8) : ByteArray := ⟨l.toArray⟩
theorem bytesOf_data (l : List UInt8) : (bytesOf l).data.toList = l := by simp [bytesOf]
theorem bytesOf_app (a b : List UInt8) : bytesOf a ++ bytesOf b = bytesOf (a ++ b) := by
 apply ByteArray.ext
 simp [bytesOf]
def wordsK (r : Rec) (k : Nat) : List (List UInt8) := [Lib.decDigits r.step.toNat, Lib.decDigits r.rate.toNat, Lib.decDigits r.root.toNat, Lib.decDigits r.chain.toNat] ++ (r.batch.take k).map fun n => Lib.decDigits n.toNat
theorem wordsK_succ (r : Rec) {k : Nat} (h : k < r.batch.length) : wordsK r (k + 1) = wordsK r k ++ [Lib.decDigits (at0 r.batch k).toNat] := by
 unfold wordsK at0
 rw [List.take_add_one, List.getElem?_eq_getElem h, List.map_append]
 rfl
theorem wordsK_len (r : Rec) {k : Nat} (h : k ≤ r.batch.length) : (wordsK r k).length = 4 + k := by
 unfold wordsK
 simp [Nat.min_eq_left h]
 omega
theorem wordsK_end (r : Rec) : wordsK r r.batch.length = wordsR r := by
 unfold wordsK wordsR
 rw [List.take_length]
 rfl
theorem join_bound (c : UInt8) (m : Nat) : ∀ w : List (List UInt8), (∀ p ∈ w, p.length ≤ m) → ([c].intercalate w).length ≤ w.length * (m + 1)
 | [], _ => by simp [List.intercalate]
 | [p], h => by
  have := h p (by simp)
  simp [List.intercalate]
  omega
 | p :: q :: r, h => by
  have ih := join_bound c m (q :: r) (fun x hx => h x (by simp at hx ⊢; right; exact hx))
  have h1 := h p (by simp)
  have e : [c].intercalate (p :: q :: r) = p ++ c :: [c].intercalate (q :: r) := by simp [List.intercalate]
  rw [e, List.length_append, List.length_cons, List.length_cons, Nat.succ_mul]
  omega
theorem line_len {r : Rec} (h : goodR r = true) : ([32].intercalate (wordsR r)).length ≤ 240 := by
 have h1 := join_bound 32 19 (wordsR r) (fun p hp => by
  rw [wordsR_nums] at hp
  obtain ⟨n, hn, rfl⟩ := List.mem_map.1 hp
  exact (dec_len n (numsR_ok h n hn)).2)
 have h2 : (wordsR r).length = 4 + r.batch.length := by unfold wordsR; simp; omega
 have h3 := (goodR_iff.1 h).2.2.2.2.1
 rw [h2] at h1
 have h4 : (4 + r.batch.length) * (19 + 1) ≤ 12 * 20 := Nat.mul_le_mul (by omega) (by omega)
 omega
theorem itoa_dec {n : Int} (h : 0 ≤ n) : Lib.itoa n = Lib.decDigits n.toNat := by unfold Lib.itoa; rw [if_neg (by omega)]
theorem lib_Itoa' {n : Int} (h0 : 0 ≤ n) (h1 : n ≤ 9223372036854775807) (w : World) (ht : Tabs w) :
  Calls Tryz.prog 38 #[.int .i64 n] w fun e w' => e = .returned (.string (bytesOf (Lib.decDigits n.toNat))) ∧ Below w.heap.size w w' := by
 have h := lib_Itoa n (by omega) h1 w ht
 rw [itoa_dec h0] at h
 exact h
theorem lib_FormatUint' {n : Int} (h0 : 0 ≤ n) (h1 : n < 18446744073709551616) (w : World) (ht : Tabs w) :
  Calls Tryz.prog 79 #[.int .u64 n, .int .i64 10] w fun e w' => e = .returned (.string (bytesOf (Lib.decDigits n.toNat))) ∧ Below w.heap.size w w' := by
 obtain ⟨u, rfl⟩ : ∃ u : Nat, n = u := ⟨n.toNat, by omega⟩
 exact lib_FormatUint u (by omega) w ht
def printT (r : Rec) : List UInt8 := if goodR r = true then lineT r else []
def printE (r : Rec) : Int := if goodR r = true then 0 else 5
theorem sto_Print (r : Rec) (A : Option Addr) (n k : Nat) (w : World) (hx : Ints .i64 w A n r.batch) (hn : n ≤ 9223372036854775807) (b0 : 0 ≤ r.root) (b1 : 0 ≤ r.chain) (ht : Tabs w) :
  Calls Tryz.prog 49 #[.agg #[.int .i64 r.step, .slice A n k, .int .i64 r.rate, .int .u64 r.root, .int .u64 r.chain]] w fun e w' => e = .returned (.tuple #[.string (bytesOf (printT r)), .int .i64 (printE r)]) ∧ Below w.heap.size w w' := by
 have hl := hx.len
 have bw : Below w.heap.size w (w.alloc (.cells #[.int .i64 r.step, .slice A n k, .int .i64 r.rate, .int .u64 r.root, .int .u64 r.chain] 90)) := (by repeat (first | exact Below.refl _ _ | assumption | refine bel_drewN ?_ _ | refine Below.drew ?_ | (refine Below.alloc ?_ (by simp <;> omega) _) | (refine Below.setCell ?_ (by simp <;> omega) _)))
 have HRI := Lib.hid (sto_right r A n k _ (hx.below bw) hn b0 b1)
 have HB := Blk.made w 90 #[.int .i64 r.step, .slice A n k, .int .i64 r.rate, .int .u64 r.root, .int .u64 r.chain]
 go_enter Tryz.func49, Tryz.ntmps49
 go_wp2_with fail
 refine HRI.out.mono ?_
 rintro e w1 ⟨rfl, hb1⟩
 replace HB := HB.below hb1 HB.lt
 have hw1 := bw.trans (hb1.mono bw.size)
 have hx1 := hx.below hw1
 have ht1 := ht.below hw1
 clear hb1 bw HRI hx ht
 cases hg : goodR r
 ·have F := Lib.hid (show printT r = [] ∧ printE r = 5 from ⟨by unfold printT; rw [hg]; rfl, by unfold printE; rw [hg]; rfl⟩)
  clear hg
  go_wp2
  go_ret2
  rw [F.out.1, F.out.2]
  exact ⟨rfl, hw1⟩
 ·have F := Lib.hid (show printT r = lineT r ∧ printE r = 0 from ⟨if_pos hg, if_pos hg⟩)
  have HLN := Lib.hid (line_len hg)
  obtain ⟨⟨g1, g2⟩, ⟨g3, g4⟩, ⟨_, g5⟩, ⟨_, g6⟩, g7, g8⟩ := goodR_iff.1 hg
  unfold pS at g5 g6
  clear hg
  have HI1 := Lib.hid (fun W (h : Below w1.heap.size w1 W) => lib_Itoa' g1 (by omega) W (ht1.below h))
  have HI2 := Lib.hid (fun W (h : Below w1.heap.size w1 W) => lib_Itoa' g3 (by omega) W (ht1.below h))
  have HF1 := Lib.hid (fun W (h : Below w1.heap.size w1 W) => lib_FormatUint' b0 (by omega) W (ht1.below h))
  have HF2 := Lib.hid (fun W (h : Below w1.heap.size w1 W) => lib_FormatUint' b1 (by omega) W (ht1.below h))
  have HCS := Lib.hid (fun W (h : Below w1.heap.size w1 W) => (show Blk W w.heap.size 90 #[.int .i64 r.step, .slice A n k, .int .i64 r.rate, .int .u64 r.root, .int .u64 r.chain] from HB.below h HB.lt))
  have HS := Lib.hid (fun W (h : Below w1.heap.size w1 W) => show W.cell? ⟨w.heap.size, 0, none⟩ = some (.int .i64 r.step) ∧ W.cell? ⟨w.heap.size, 2, none⟩ = some (.int .i64 r.rate) ∧ W.cell? ⟨w.heap.size, 3, none⟩ = some (.int .u64 r.root) ∧ W.cell? ⟨w.heap.size, 4, none⟩ = some (.int .u64 r.chain) from ⟨(HCS.out W h).cell 0, (HCS.out W h).cell 2, (HCS.out W h).cell 3, (HCS.out W h).cell 4⟩)
  have HNN := Lib.hid (fun j (hj : j < n) => show 0 ≤ at0 r.batch j ∧ at0 r.batch j ≤ 99 from by
   unfold at0
   rw [List.getElem?_eq_getElem (by omega)]
   exact g8 _ (List.getElem_mem _))
  obtain ⟨d0, hd0⟩ : ∃ d, d = bytesOf (Lib.decDigits r.step.toNat) := ⟨_, rfl⟩
  obtain ⟨d1, hd1⟩ : ∃ d, d = bytesOf (Lib.decDigits r.rate.toNat) := ⟨_, rfl⟩
  obtain ⟨d2, hd2⟩ : ∃ d, d = bytesOf (Lib.decDigits r.root.toNat) := ⟨_, rfl⟩
  obtain ⟨d3, hd3⟩ : ∃ d, d = bytesOf (Lib.decDigits r.chain.toNat) := ⟨_, rfl⟩
  rw [← hd0] at HI1
  rw [← hd1] at HI2
  rw [← hd2] at HF1
  rw [← hd3] at HF2
  have HK0 := Lib.hid (show ([d0, d1, d2, d3] : List ByteArray) = (wordsK r 0).map bytesOf from by rw [hd0, hd1, hd2, hd3]; rfl)
  clear hd0 hd1 hd2 hd3 g1 g2 g3 g4 g5 g6 g8
  go_upto_region 3 with fail
  have k0 : Below w1.heap.size w1 w1.drew := (Below.refl _ _).drew
  have S0 := HS.out _ k0
  go_cut [4] (fun v wx => ∃ g, v = .slice (some ⟨g, 0, none⟩) 4 4 ∧ w1.heap.size ≤ g ∧ Blk wx g 9 #[.string d0, .string d1, .string d2, .string d3] ∧ Below w1.heap.size w1 wx)
  case first =>
   go_region_held3 (fun W => W.cell? ⟨w.heap.size, 0, none⟩ = some (.int .i64 r.step) ∧ W.cell? ⟨w.heap.size, 2, none⟩ = some (.int .i64 r.rate) ∧ W.cell? ⟨w.heap.size, 3, none⟩ = some (.int .u64 r.root) ∧ W.cell? ⟨w.heap.size, 4, none⟩ = some (.int .u64 r.chain)) (first | (with_reducible exact S0) | (with_reducible exact S1) | (with_reducible exact S2) | (with_reducible exact S3) | (with_reducible exact S4) | (with_reducible exact S5) | fail) (first
    | (go_at_call 38; (with_reducible refine (HI1.out _ k0).mono ?_); rintro e u1 ⟨rfl, hb1⟩; have k1 : Below w1.heap.size w1 u1 := bel_trans k0 hb1; have S1 := HS.out _ k1)
    | (go_at_call 38; (with_reducible refine (HI2.out _ k1).mono ?_); rintro e u2 ⟨rfl, hb2⟩; have k2 : Below w1.heap.size w1 u2 := bel_trans k1 hb2; have S2 := HS.out _ k2)
    | (go_at_call 79; (with_reducible refine (HF1.out _ k2).mono ?_); rintro e u3 ⟨rfl, hb3⟩; have k3 : Below w1.heap.size w1 u3 := bel_trans k2 hb3; have S3 := HS.out _ k3)
    | (go_at_call 79; (with_reducible refine (HF2.out _ k3).mono ?_); rintro e u4 ⟨rfl, hb4⟩; have k4 : Below w1.heap.size w1 u4 := bel_trans k3 hb4; have S4 := HS.out _ k4; have S5 := HS.out (u4.alloc (.cells #[.string d0, .string d1, .string d2, .string d3] 9)) (k4.alloc k4.size _))
    | fail)
   go_wp2
   go_meet
   case rel => exact ⟨u4.heap.size, rfl, k4.size, Blk.made _ _ _, k4.alloc k4.size _⟩
  case rest =>
   obtain ⟨g, rfl, hg, hblk, hbc⟩ := hcut
   obtain ⟨i0, hi0, hz0, hz1, hz2⟩ := info_parts str_info
   have O0 : wc.ownsRow w1.heap.size 9 1 (.slice (some ⟨g, 0, none⟩) 4 4) (4 + 0) (((wordsK r 0).map bytesOf).map Value.string) := by
    rw [← HK0.out]
    exact ⟨rfl, .inr ⟨g, 4, _, rfl, hg, hblk, by omega, by unfold maxLen; omega, rfl, rfl⟩⟩
   have HKS := Lib.hid (fun q (h : q < n) => show (wordsK r (q + 1)).map bytesOf = (wordsK r q).map bytesOf ++ [bytesOf (Lib.decDigits (at0 r.batch q).toNat)] from by rw [wordsK_succ r (by omega), List.map_append]; rfl)
   have HKL := Lib.hid (show ((wordsK r n).map bytesOf).length = 4 + n from by rw [List.length_map, wordsK_len r (by omega)])
   have HKE := Lib.hid (show ((wordsK r n).map bytesOf).map (fun x => x.data.toList) = wordsR r from by
    rw [List.map_map, show (fun x : ByteArray => x.data.toList) ∘ bytesOf = id from by funext x; exact bytesOf_data x, List.map_id, ← hl, wordsK_end])
   obtain ⟨K, hK⟩ : ∃ K, K = fun q => (wordsK r q).map bytesOf := ⟨_, rfl⟩
   have eK : ∀ q, (wordsK r q).map bytesOf = K q := fun q => by rw [hK]
   simp only [eK] at O0 HKS HKL HKE
   clear eK hK HK0 hblk S0 HI1 HI2 HF1 HF2 HS
   obtain ⟨y, rfl⟩ : ∃ y : World, y = wc := ⟨_, rfl⟩
   have c1 : y.cell? ⟨w.heap.size, 1, none⟩ = some (.slice A n k) := (HCS.out _ hbc).cell 1
   go_wp2
   go_loopw [4, 6, 26] (fun l _ j wr => ∃ q : Nat, q ≤ n ∧ j = .int .i64 q ∧ wr.ownsRow w1.heap.size 9 1 l (4 + q) ((K q).map Value.string) ∧ Below w1.heap.size w1 wr) (fun _ _ j _ => n - (intOf j).toNat)
   case atStart => exact ⟨0, by omega, rfl, O0, hbc⟩
   case round =>
    clear O0 hbc
    obtain ⟨q, hq, rfl, hown, hb⟩ := hrel
    have hbs := hb.size
    by_cases hlt : q < n
    ·obtain ⟨b, off, hA, hbl, hc⟩ := (hx1.below hb).cells (by omega)
     subst hA
     have g2 := hc q hlt
     obtain ⟨y0, y1⟩ := HNN.out q hlt
     have G := Lib.hid (HKS.out q hlt)
     obtain ⟨z, hz⟩ : ∃ z, z = at0 r.batch q := ⟨_, rfl⟩
     rw [← hz] at g2 y0 y1 G
     have HI := Lib.hid (lib_Itoa' y0 (by omega) wr (ht1.below hb))
     obtain ⟨dz, hdz⟩ : ∃ d, d = bytesOf (Lib.decDigits z.toNat) := ⟨_, rfl⟩
     rw [← hdz] at G HI
     clear hc hz hdz y0 y1
     go_wp2_with fail
     refine HI.out.mono ?_
     rintro e u ⟨rfl, hbu⟩
     have hbw1 : Below w1.heap.size w1 u := bel_trans hb hbu
     have hbw2 := hbw1.size
     have hownu := own_below hown hbu
     go_wp2_with (at_builtin; refine wpList_append_own _ rfl _ _ 24 rfl w1.heap.size 9 i0 (.string ByteArray.empty) 1 16 Tryz.underlying24 hi0 hz0 hz1 hz2 rfl (by decide) u4 (4 + q) _ rfl (hownu.alloc _) ⟨u.heap.size, 0, none⟩ 1 1 [.string dz] rfl rfl (cell_one_new _ _ _) (by simp [Value.oneCell']) (by unfold maxLen; omega) (by omega) (by simp; omega) ?_; intro v1 v2 hown1 hgrow _)
     have hb2 : Below w1.heap.size w1 v2 := Below.grown (hbw1.alloc (by omega) _) hgrow (by simp; omega) (fun x hx => (hown.lt x hx).1)
     rw [show (K q).map Value.string ++ [.string dz] = (K (q + 1)).map Value.string by rw [G.out]; simp] at hown1
     clear hgrow
     go_roundw
     case rel => exact ⟨q + 1, by omega, by go_num, hown1, hb2⟩
     case measure => simp [intOf]; omega
    ·obtain rfl : q = n := by omega
     obtain ⟨g, cap, rfl, h1, h2⟩ := hown.form (by omega)
     have hcap : (K q).length ≤ cap := by
      rw [HKL.out]
      obtain ⟨_, h | ⟨g1, cap1, cur, e, _, _, hle, _⟩⟩ := hown
      ·cases h.1
      ·cases e
       exact hle
     have hcl : ∀ (j : Nat) x, (K q)[j]? = some x → wr.cell? ⟨g, 0 + j, none⟩ = some (.string x) := fun j x hj => by
      have h := hown.cells (g := g) rfl j (.string x) (by rw [List.getElem?_map, hj]; rfl)
      rw [Lib.add_plain] at h
      exact h
     have HJ := Tryz.strings_Join g 0 cap (K q) (bytesOf [32]) wr hcl h2 (by rw [HKL.out]; omega) hcap (by rw [HKE.out, bytesOf_data]; exact Nat.le_trans HLN.out (by omega))
     rw [HKE.out, bytesOf_data, HKL.out] at HJ
     have HJJ := Lib.hid HJ
     clear HJ
     obtain ⟨J, hJ⟩ : ∃ J : ByteArray, J = ⟨(Lib.join (wordsR r) [32]).toArray⟩ := ⟨_, rfl⟩
     rw [← hJ] at HJJ
     have hJs : J.size ≤ 240 := by rw [hJ]; exact HLN.out
     have HLL := Lib.hid (show J ++ bytesOf [10] = bytesOf (lineT r) from by rw [hJ]; exact bytesOf_app _ _)
     clear hJ hcl hcap hown c1
     go_wp2_with fail
     refine HJJ.out.mono ?_
     rintro e w5 ⟨rfl, hb5⟩
     go_wp2
     go_ret2
     rw [F.out.1, F.out.2, ← HLL.out]
     exact ⟨rfl, hw1.trans ((bel_trans hb hb5).mono hw1.size)⟩
theorem join_snoc (c : UInt8) (x : List UInt8) : ∀ w : List (List UInt8), w ≠ [] → [c].intercalate (w ++ [x]) = [c].intercalate w ++ (c :: x)
 | [], h => absurd rfl h
 | [p], _ => by simp [List.intercalate]
 | p :: q :: r, _ => by
  have ih := join_snoc c x (q :: r) (by simp)
  have e : ∀ s : List (List UInt8), s ≠ [] → [c].intercalate (p :: s) = p ++ c :: [c].intercalate s := fun s hs => by
   cases s with
   | nil => exact absurd rfl hs
   | cons a b => simp [List.intercalate]
  rw [List.cons_append, e _ (by simp), ih, e _ (by simp)]
  simp
def lineK (r : Rec) (q : Nat) : List UInt8 := [32].intercalate (wordsK r q)
theorem lineK_succ (r : Rec) {q : Nat} (h : q < r.batch.length) : lineK r (q + 1) = lineK r q ++ (32 :: Lib.decDigits (at0 r.batch q).toNat) := by
 unfold lineK
 rw [wordsK_succ r h, join_snoc _ _ _ (by unfold wordsK; simp)]
theorem lineK_len {r : Rec} (h : goodR r = true) {q : Nat} (hq : q ≤ r.batch.length) : (lineK r q).length ≤ 240 := by
 have h1 := join_bound 32 19 (wordsK r q) (fun p hp => by
  have hp2 : p ∈ wordsR r := by
   rw [← wordsK_end]
   unfold wordsK at hp ⊢
   rw [List.mem_append] at hp ⊢
   rcases hp with hp | hp
   ·exact .inl hp
   ·refine .inr ?_
    obtain ⟨x, hx, rfl⟩ := List.mem_map.1 hp
    rw [List.take_length]
    exact List.mem_map.2 ⟨x, List.mem_of_mem_take hx, rfl⟩
  rw [wordsR_nums] at hp2
  obtain ⟨n, hn, rfl⟩ := List.mem_map.1 hp2
  exact (dec_len n (numsR_ok h n hn)).2)
 have h3 := (goodR_iff.1 h).2.2.2.2.1
 rw [wordsK_len r hq] at h1
 have h4 : (4 + q) * (19 + 1) ≤ 12 * 20 := Nat.mul_le_mul (by omega) (by omega)
 unfold lineK
 omega
theorem ref_LineText (r : Rec) (A : Option Addr) (n k : Nat) (w : World) (hx : Ints .i64 w A n r.batch) (hg : goodR r = true) (ht : Tabs w) :
  Calls Tryz.prog 61 #[.agg #[.int .i64 r.step, .slice A n k, .int .i64 r.rate, .int .u64 r.root, .int .u64 r.chain]] w fun e w' => e = .returned (.string (bytesOf (lineT r))) ∧ Below w.heap.size w w' := by
 have hl := hx.len
 obtain ⟨w1, hw⟩ : ∃ w1, w1 = w.alloc (.cells #[.int .i64 r.step, .slice A n k, .int .i64 r.rate, .int .u64 r.root, .int .u64 r.chain] 90) := ⟨_, rfl⟩
 have hw1 : Below w.heap.size w w1 := by rw [hw]; exact (by repeat (first | exact Below.refl _ _ | assumption | refine bel_drewN ?_ _ | refine Below.drew ?_ | (refine Below.alloc ?_ (by simp <;> omega) _) | (refine Below.setCell ?_ (by simp <;> omega) _)))
 have HB : Blk w1 w.heap.size 90 #[.int .i64 r.step, .slice A n k, .int .i64 r.rate, .int .u64 r.root, .int .u64 r.chain] := by rw [hw]; exact Blk.made _ _ _
 have HW := Lib.hid hw
 have hx1 := hx.below hw1
 have ht1 := ht.below hw1
 clear hx ht hw
 have HLK := Lib.hid (fun q (h : q ≤ n) => lineK_len hg (q := q) (by omega))
 have HLS := Lib.hid (fun q (h : q < n) => lineK_succ r (q := q) (by omega))
 have HLE := Lib.hid (show bytesOf (lineK r n) ++ bytesOf [10] = bytesOf (lineT r) from by rw [bytesOf_app]; unfold lineK lineT; rw [← hl, wordsK_end])
 have HSZ := Lib.hid (fun m (h : m ∈ numsR r) => (dec_len m (numsR_ok hg m h)).2)
 obtain ⟨⟨g1, g2⟩, ⟨g3, g4⟩, ⟨b0, g5⟩, ⟨b1, g6⟩, g7, g8⟩ := goodR_iff.1 hg
 unfold pS at g5 g6
 have HI1 := fun W (h : Below w1.heap.size w1 W) => lib_Itoa' g1 (by omega) W (ht1.below h)
 have HI2 := fun W (h : Below w1.heap.size w1 W) => lib_Itoa' g3 (by omega) W (ht1.below h)
 have HF1 := fun W (h : Below w1.heap.size w1 W) => lib_FormatUint' b0 (by omega) W (ht1.below h)
 have HF2 := fun W (h : Below w1.heap.size w1 W) => lib_FormatUint' b1 (by omega) W (ht1.below h)
 have HNN := Lib.hid (fun j (hj : j < n) => show 0 ≤ at0 r.batch j ∧ at0 r.batch j ≤ 99 from by
  unfold at0
  rw [List.getElem?_eq_getElem (by omega)]
  exact g8 _ (List.getElem_mem _))
 have HL0 := Lib.hid (show bytesOf (lineK r 0) = bytesOf (Lib.decDigits r.step.toNat) ++ bytesOf [32] ++ bytesOf (Lib.decDigits r.rate.toNat) ++ bytesOf [32] ++ bytesOf (Lib.decDigits r.root.toNat) ++ bytesOf [32] ++ bytesOf (Lib.decDigits r.chain.toNat) from by
  rw [bytesOf_app, bytesOf_app, bytesOf_app, bytesOf_app, bytesOf_app, bytesOf_app]
  unfold lineK wordsK
  simp [List.intercalate])
 have z0 : (bytesOf (Lib.decDigits r.step.toNat)).size ≤ 19 := HSZ.out _ (by unfold numsR; simp)
 have z1 : (bytesOf (Lib.decDigits r.rate.toNat)).size ≤ 19 := HSZ.out _ (by unfold numsR; simp)
 have z2 : (bytesOf (Lib.decDigits r.root.toNat)).size ≤ 19 := HSZ.out _ (by unfold numsR; simp)
 have z3 : (bytesOf (Lib.decDigits r.chain.toNat)).size ≤ 19 := HSZ.out _ (by unfold numsR; simp)
 obtain ⟨d0, hd0⟩ : ∃ d, d = bytesOf (Lib.decDigits r.step.toNat) := ⟨_, rfl⟩
 obtain ⟨d1, hd1⟩ : ∃ d, d = bytesOf (Lib.decDigits r.rate.toNat) := ⟨_, rfl⟩
 obtain ⟨d2, hd2⟩ : ∃ d, d = bytesOf (Lib.decDigits r.root.toNat) := ⟨_, rfl⟩
 obtain ⟨d3, hd3⟩ : ∃ d, d = bytesOf (Lib.decDigits r.chain.toNat) := ⟨_, rfl⟩
 rw [← hd0] at HI1 HL0 z0
 rw [← hd1] at HI2 HL0 z1
 rw [← hd2] at HF1 HL0 z2
 rw [← hd3] at HF2 HL0 z3
 have cI1 := Lib.hid (fun d os => Calls.regrown_of (HI1 (grow (redrawn w1 d) os) (below_regrown w1 d os)))
 have cI2 := Lib.hid (fun d os => Calls.regrown_of (HI2 (grow (redrawn w1 d) os) (below_regrown w1 d os)))
 have cF1 := Lib.hid (fun d os => Calls.regrown_of (HF1 (grow (redrawn w1 d) os) (below_regrown w1 d os)))
 have cF2 := Lib.hid (fun d os => Calls.regrown_of (HF2 (grow (redrawn w1 d) os) (below_regrown w1 d os)))
 have HC1 := Lib.hid (fun W (h : Below w1.heap.size w1 W) => show W.cell? ⟨w.heap.size, 1, none⟩ = some (.slice A n k) from (HB.below h HB.lt).cell 1)
 have K0 := cell_regrown (show w1.cell? ⟨w.heap.size, 0, none⟩ = some (.int .i64 r.step) from HB.cell 0)
 have K2 := cell_regrown (show w1.cell? ⟨w.heap.size, 2, none⟩ = some (.int .i64 r.rate) from HB.cell 2)
 have K3 := cell_regrown (show w1.cell? ⟨w.heap.size, 3, none⟩ = some (.int .u64 r.root) from HB.cell 3)
 have K4 := cell_regrown (show w1.cell? ⟨w.heap.size, 4, none⟩ = some (.int .u64 r.chain) from HB.cell 4)
 obtain ⟨L, hL⟩ : ∃ L, L = fun q => bytesOf (lineK r q) := ⟨_, rfl⟩
 have eL : ∀ q, bytesOf (lineK r q) = L q := fun q => by rw [hL]
 have HLS2 := Lib.hid (fun q (h : q < n) => show L (q + 1) = L q ++ (bytesOf [32] ++ bytesOf (Lib.decDigits (at0 r.batch q).toNat)) from by
  rw [← eL, ← eL, HLS.out q h, bytesOf_app, bytesOf_app]
  rfl)
 have HLK2 := Lib.hid (fun q (h : q ≤ n) => show (L q).size ≤ 240 from by
  rw [← eL]
  exact HLK.out q h)
 rw [eL] at HL0 HLE
 clear hd0 hd1 hd2 hd3 HI1 HI2 HF1 HF2 HSZ g1 g2 g3 g4 g5 g6 g8 hg HLK HLS hL eL HB
 go_enter Tryz.func61, Tryz.ntmps61
 go_upto_region 1 with fail
 rw [← HW.out]
 refine wp_region_quiet_below (by kernel_rfl) (by kernel_rfl) ?_
 iterate 19 (go_big_quiet_step (first | with_reducible exact cI1.out _ _ | with_reducible exact cI2.out _ _ | with_reducible exact cF1.out _ _ | with_reducible exact cF2.out _ _))
 refine wpQuiet_nil ?_
 intro _ hw'
 obtain ⟨⟨dq, osq⟩, hw''⟩ := hw'
 have hu : Below w1.heap.size w1 (grow (redrawn w1 dq) osq) := below_regrown w1 dq osq
 subst hw''
 obtain ⟨y, hy⟩ : ∃ y, y = grow (redrawn w1 dq) osq := ⟨_, rfl⟩
 rw [← hy] at hu ⊢
 rw [show d0 ++ ⟨#[32]⟩ ++ d1 ++ ⟨#[32]⟩ ++ d2 ++ ⟨#[32]⟩ ++ d3 = L 0 from HL0.out.symm]
 have hn8 : n ≤ 8 := by omega
 clear hy HL0 K0 K2 K3 K4 cI1 cI2 cF1 cF2 z0 z1 z2 z3 hl
 go_wp2
 go_loopw [3, 4] (fun l j wr => ∃ q : Nat, q ≤ n ∧ j = .int .i64 q ∧ l = .string (L q) ∧ Below w1.heap.size w1 wr) (fun _ j _ => n - (intOf j).toNat)
 case atStart => exact ⟨0, by omega, rfl, rfl, hu⟩
 case round =>
  clear hu
  obtain ⟨q, hq, rfl, rfl, hb⟩ := hrel
  have c1 := HC1.out _ hb
  have e1 := HLK2.out q hq
  by_cases hlt : q < n
  ·obtain ⟨b, off, hA, hbl, hc⟩ := (hx1.below hb).cells (by omega)
   subst hA
   have g2 := hc q hlt
   obtain ⟨y0, y1⟩ := HNN.out q hlt
   have G := Lib.hid (HLS2.out q hlt)
   have e3 := HLK2.out (q + 1) hlt
   rw [G.out, ByteArray.size_append, ByteArray.size_append] at e3
   obtain ⟨z, hz⟩ : ∃ z, z = at0 r.batch q := ⟨_, rfl⟩
   rw [← hz] at g2 y0 y1 G e3
   have HI := Lib.hid (lib_Itoa' y0 (by omega) wr (ht1.below hb))
   obtain ⟨dz, hdz⟩ : ∃ d, d = bytesOf (Lib.decDigits z.toNat) := ⟨_, rfl⟩
   rw [← hdz] at G HI e3
   have e2 : dz.size ≤ 240 := by omega
   clear hc hz hdz y0 y1 e3
   go_wp2_with fail
   refine HI.out.mono ?_
   rintro e u ⟨rfl, hbu⟩
   have hb2 : Below w1.heap.size w1 u := bel_trans hb hbu
   have e4 : ({ data := #[32] } ++ dz : ByteArray).size ≤ 241 := by rw [ByteArray.size_append]; show 1 + _ ≤ _; omega
   go_wp2
   go_roundw
   case rel => exact ⟨q + 1, by omega, by go_num, by rw [G.out]; rfl, hb2⟩
   case measure => simp [intOf]; omega
  ·obtain rfl : q = n := by omega
   go_wp2
   go_ret
   rw [← HLE.out]
   exact ⟨rfl, hw1.trans (hb.mono hw1.size)⟩
def numN (l : List UInt8) : Nat := (numO l).getD 0
theorem byte_at (s : ByteArray) {q : Nat} (h : q < s.size) : s.data.toList[q]? = some (s[q]'h) := by
 rw [List.getElem?_eq_getElem (by rw [Array.length_toList]; exact h)]
 rfl
theorem take_byte (s : ByteArray) {q : Nat} (h : q < s.size) : s.data.toList.take (q + 1) = s.data.toList.take q ++ [s[q]'h] := by
 rw [List.take_add_one, byte_at s h]
 rfl
theorem numO_no_dig {l : List UInt8} {q : Nat} {b : UInt8} (h : l[q]? = some b) (hb : isDig b = false) : numO l = none := by
 unfold numO
 split
 ·rfl
 ·rw [if_neg]
  intro ha
  rw [List.all_eq_true] at ha
  rw [ha b (List.mem_of_getElem? h)] at hb
  cases hb
theorem numO_bad {l : List UInt8} (h : l.length < 1 ∨ 19 < l.length ∨ (l.head? = some 48 ∧ 1 < l.length)) : numO l = none := if_pos h
theorem numO_all {l : List UInt8} (h : ¬ (l.length < 1 ∨ 19 < l.length ∨ (l.head? = some 48 ∧ 1 < l.length))) (ha : l.all isDig = true) : numO l = some (numV l) := by
 unfold numO
 rw [if_neg h, if_pos ha]
theorem pow19 {q : Nat} (h : q ≤ 18) {N : Nat} (hN : N < 10 ^ q) : N < 1000000000000000000 := Nat.lt_of_lt_of_le hN (Nat.pow_le_pow_right (n := 10) (by omega) h)
theorem sto_number (s : ByteArray) (w : World) :
  Calls Tryz.prog 123 #[.string s] w fun e w' => e = .returned (.tuple #[.int .u64 (numN s.data.toList), .bool (numO s.data.toList).isSome]) ∧ w' = w := by
 have hsz : s.data.toList.length = s.size := by rw [Array.length_toList]; rfl
 by_cases h0 : s.size < 1
 ·have F := Lib.hid (numO_bad (l := s.data.toList) (.inl (by omega)))
  unfold numN
  rw [F.out]
  clear hsz
  go_enter Tryz.func123, Tryz.ntmps123
  go_wp2
  go_ret2
  exact ⟨rfl, rfl⟩
 ·by_cases h1 : 19 < s.size
  ·have F := Lib.hid (numO_bad (l := s.data.toList) (.inr (.inl (by omega))))
   unfold numN
   rw [F.out]
   clear hsz
   go_enter Tryz.func123, Tryz.ntmps123
   go_wp2
   go_ret2
   exact ⟨rfl, rfl⟩
  ·have hp : 0 < s.size := by omega
   obtain ⟨v, hv⟩ : ∃ v, (s[0]'hp).toNat = v := ⟨_, rfl⟩
   have hv256 : v < 256 := by rw [← hv]; exact UInt8.toNat_lt _
   have hhd : s.data.toList.head? = some (s[0]'hp) := by rw [List.head?_eq_getElem?]; exact byte_at s hp
   have HHD := Lib.hid (show s.data.toList.head? = some 48 ↔ v = 48 from by
    rw [hhd, ← hv]
    constructor
    ·intro h; injection h with h; rw [h]; rfl
    ·intro h; congr 1; exact UInt8.toNat_inj.1 h)
   clear hhd
   by_cases h2 : v = 48 ∧ 1 < s.size
   ·have F := Lib.hid (numO_bad (l := s.data.toList) (.inr (.inr ⟨HHD.out.2 h2.1, by omega⟩)))
    unfold numN
    rw [F.out]
    obtain ⟨rfl, h2⟩ := h2
    clear hsz
    go_enter Tryz.func123, Tryz.ntmps123
    go_wp2
    go_ret2
    exact ⟨rfl, rfl⟩
   ·have HGB := Lib.hid (show ¬ (s.data.toList.length < 1 ∨ 19 < s.data.toList.length ∨ (s.data.toList.head? = some 48 ∧ 1 < s.data.toList.length)) from by
     rintro (h | h | ⟨h, h'⟩)
     ·omega
     ·omega
     ·exact h2 ⟨HHD.out.1 h, by omega⟩)
    go_enter Tryz.func123, Tryz.ntmps123
    go_upto_region 3 with fail
    all_goals
     clear hv hv256 HHD h2
     go_wp2
     go_loopw [4, 5, 26] (fun nn _ j wr => ∃ q : Nat, q ≤ s.size ∧ j = .int .i64 q ∧ nn = .int .u64 (numV (s.data.toList.take q)) ∧ (s.data.toList.take q).all isDig = true ∧ wr = w) (fun _ _ j _ => s.size - (intOf j).toNat)
     case atStart => exact ⟨0, by omega, rfl, rfl, rfl, rfl⟩
     case round =>
      obtain ⟨q, hq, rfl, rfl, hall, hwr⟩ := hrel
      subst hwr
      have HA := Lib.hid hall
      clear hall
      by_cases hlt : q < s.size
      ·have hN := numV_lt _ HA.out
       rw [List.length_take, Nat.min_eq_left (by omega)] at hN
       have hN := pow19 (by omega) hN
       have HBD := Lib.hid (byte_at s hlt)
       have HT := Lib.hid (show numV (s.data.toList.take (q + 1)) = 10 * numV (s.data.toList.take q) + ((s[q]'hlt).toNat - 48) from by rw [take_byte s hlt, numV_snoc])
       have HAL := Lib.hid (fun (h : isDig (s[q]'hlt) = true) => show (s.data.toList.take (q + 1)).all isDig = true from by
        rw [take_byte s hlt, List.all_append, HA.out]
        simp [h])
       have HIS := Lib.hid (show isDig (s[q]'hlt) = (decide (48 ≤ (s[q]'hlt).toNat) && decide ((s[q]'hlt).toNat ≤ 57)) from rfl)
       have HNO := Lib.hid (fun (h : isDig (s[q]'hlt) = false) => numO_no_dig HBD.out h)
       obtain ⟨u, hu⟩ : ∃ u, (s[q]'hlt).toNat = u := ⟨_, rfl⟩
       have hu256 : u < 256 := by rw [← hu]; exact UInt8.toNat_lt _
       rw [hu] at HT HIS
       obtain ⟨N, hNN⟩ : ∃ N, N = numV (s.data.toList.take q) := ⟨_, rfl⟩
       rw [← hNN] at HT hN ⊢
       clear hNN HA
       by_cases h48 : u < 48
       ·have F := Lib.hid (HNO.out (by rw [HIS.out, decide_eq_false (by omega)]; rfl))
        clear hN hsz
        go_wp2
        go_ret2
        unfold numN
        rw [F.out]
        exact ⟨rfl, rfl⟩
       ·by_cases h57 : 57 < u
        ·have F := Lib.hid (HNO.out (by rw [HIS.out, decide_eq_false (p := u ≤ 57) (by omega), Bool.and_false]))
         clear hN hsz
         go_wp2
         go_ret2
         unfold numN
         rw [F.out]
         exact ⟨rfl, rfl⟩
        ·have D := Lib.hid (HAL.out (by rw [HIS.out, decide_eq_true (by omega), decide_eq_true (by omega)]; rfl))
         have w1 : IntKind.u8.wrap ((u : Int) - 48) = ((u - 48 : Nat) : Int) := by rw [IntKind.wrap_u8]; omega
         have w2 : IntKind.u64.wrap (10 * (N : Int)) = ((10 * N : Nat) : Int) := by rw [wrap_u64_in (by omega) (by omega)]; omega
         have w3 : IntKind.u64.wrap (((10 * N : Nat) : Int) + ((u - 48 : Nat) : Int)) = ((10 * N + (u - 48) : Nat) : Int) := by rw [wrap_u64_in (by omega) (by omega)]; omega
         have w4 : IntKind.u64.wrap ((u - 48 : Nat) : Int) = ((u - 48 : Nat) : Int) := wrap_u64_in (by omega) (by omega)
         clear hsz
         go_wp2
         go_roundw
         case rel => exact ⟨q + 1, by omega, by go_num, by rw [HT.out]; (congr 1 <;> omega), D.out, by simp⟩
         case measure => simp [intOf]; omega
      ·obtain rfl : q = s.size := by omega
       have F := Lib.hid (numO_all HGB.out (by have h := HA.out; rwa [List.take_of_length_le (by omega)] at h))
       rw [List.take_of_length_le (by omega)]
       clear hsz
       go_wp2
       go_ret2
       unfold numN
       rw [F.out]
       exact ⟨rfl, by simp⟩
theorem numO_dec_eq {l : List UInt8} (ha : l.all isDig = true) (hl : l.length ≤ 19) : (Lib.decDigits (numV l) == l) = (numO l).isSome := by
 have hv : numV l < 10 ^ 19 := Nat.lt_of_lt_of_le (numV_lt l ha) (Nat.pow_le_pow_right (by omega) hl)
 cases hn : numO l with
 | some n =>
  obtain ⟨h1, h2⟩ := numO_some hn
  have : numV l = n := by rw [h1, dec_val]
  rw [this, ← h1]
  simp
 | none =>
  by_cases e : Lib.decDigits (numV l) = l
  ·have h := numO_dec hv
   rw [e, hn] at h
   cases h
  ·simpa using e
theorem wrapu_lo (x : Int) : 0 ≤ IntKind.u64.wrap x ∧ IntKind.u64.wrap x < 18446744073709551616 := by
 rw [IntKind.wrap_u64]
 omega
theorem ref_whole (s : ByteArray) (w : World) (ht : Tabs w) (hs63 : s.size ≤ 9223372036854775806) :
  Calls Tryz.prog 93 #[.string s] w fun e w' => ∃ x : Int, e = .returned (.tuple #[.int .u64 x, .bool (numO s.data.toList).isSome]) ∧ ((numO s.data.toList).isSome = true → x = (numN s.data.toList : Nat)) ∧ Below w.heap.size w w' := by
 have hsz : s.data.toList.length = s.size := by rw [Array.length_toList]; rfl
 go_enter Tryz.func93, Tryz.ntmps93
 go_wp2
 go_loopw [4, 5] (fun nn j wr => ∃ (q : Nat) (X : Int), q ≤ s.size ∧ q ≤ 20 ∧ j = .int .i64 q ∧ nn = .int .u64 X ∧ 0 ≤ X ∧ X < 18446744073709551616 ∧ (q ≤ 19 → X = (numV (s.data.toList.take q) : Nat)) ∧ (s.data.toList.take q).all isDig = true ∧ wr = w) (fun _ j _ => s.size - (intOf j).toNat)
 case atStart => exact ⟨0, 0, by omega, by omega, rfl, rfl, by omega, by omega, fun _ => rfl, rfl, rfl⟩
 case round =>
  obtain ⟨q, X, hq, hq20, rfl, rfl, hX0, hX1, hXN, hall, hwr⟩ := hrel
  subst hwr
  have HA := Lib.hid hall
  have HXN := Lib.hid hXN
  clear hall hXN
  by_cases hlt : q < s.size
  ·by_cases hlt2 : q < 20
   ·have HBD := Lib.hid (byte_at s hlt)
    have HT := Lib.hid (show numV (s.data.toList.take (q + 1)) = 10 * numV (s.data.toList.take q) + ((s[q]'hlt).toNat - 48) from by rw [take_byte s hlt, numV_snoc])
    have HAL := Lib.hid (fun (h : isDig (s[q]'hlt) = true) => show (s.data.toList.take (q + 1)).all isDig = true from by
     rw [take_byte s hlt, List.all_append, HA.out]
     simp [h])
    have HIS := Lib.hid (show isDig (s[q]'hlt) = (decide (48 ≤ (s[q]'hlt).toNat) && decide ((s[q]'hlt).toNat ≤ 57)) from rfl)
    have HNO := Lib.hid (fun (h : isDig (s[q]'hlt) = false) => numO_no_dig HBD.out h)
    have hN := numV_lt _ HA.out
    rw [List.length_take, Nat.min_eq_left (by omega)] at hN
    have HN := Lib.hid (fun (h : q ≤ 18) => pow19 h hN)
    clear hN
    obtain ⟨u, hu⟩ : ∃ u, (s[q]'hlt).toNat = u := ⟨_, rfl⟩
    have hu256 : u < 256 := by rw [← hu]; exact UInt8.toNat_lt _
    rw [hu] at HT HIS
    by_cases h48 : u < 48
    ·have F := Lib.hid (HNO.out (by rw [HIS.out, decide_eq_false (by omega)]; rfl))
     clear hsz
     go_wp2
     go_ret2
     rw [F.out]
     exact ⟨0, rfl, fun h => (by cases h), Below.refl _ _⟩
    ·by_cases h57 : 57 < u
     ·have F := Lib.hid (HNO.out (by rw [HIS.out, decide_eq_false (p := u ≤ 57) (by omega), Bool.and_false]))
      clear hsz
      go_wp2
      go_ret2
      rw [F.out]
      exact ⟨0, rfl, fun h => (by cases h), Below.refl _ _⟩
     ·have D := Lib.hid (HAL.out (by rw [HIS.out, decide_eq_true (by omega), decide_eq_true (by omega)]; rfl))
      by_cases h18 : q ≤ 18
      ·have hN := HN.out h18
       have hX := HXN.out (by omega)
       obtain ⟨N, hNN⟩ : ∃ N, N = numV (s.data.toList.take q) := ⟨_, rfl⟩
       rw [← hNN] at HT hN hX
       subst hX
       clear hNN HA HXN HN
       obtain ⟨Y, hY⟩ : ∃ Y : Int, Y = (N : Int) * 10 + u - 48 := ⟨_, rfl⟩
       have w1 : IntKind.u64.wrap ((N : Int) * 10) = (N : Int) * 10 := wrap_u64_in (by omega) (by omega)
       have w2 : IntKind.u64.wrap (u : Int) = (u : Int) := wrap_u64_in (by omega) (by omega)
       have w3 : IntKind.u64.wrap ((N : Int) * 10 + (u : Int)) = (N : Int) * 10 + (u : Int) := wrap_u64_in (by omega) (by omega)
       have w4 : IntKind.u64.wrap ((N : Int) * 10 + (u : Int) - 48) = Y := by rw [wrap_u64_in (by omega) (by omega)]; exact hY.symm
       have HY := Lib.hid (show 0 ≤ Y ∧ Y < 18446744073709551616 ∧ Y = ((10 * N + (u - 48) : Nat) : Int) from by omega)
       clear hY hX0 hX1 hN
       clear hsz
       go_wp2
       go_roundw
       case rel => exact ⟨q + 1, Y, by omega, by omega, by go_num, rfl, HY.out.1, HY.out.2.1, fun _ => by rw [HT.out]; exact HY.out.2.2, D.out, by simp⟩
       case measure => simp [intOf]; omega
      ·clear HA HXN HN hsz
       go_wp2
       go_roundw
       case rel => exact ⟨q + 1, _, by omega, by omega, by go_num, rfl, (wrapu_lo _).1, (wrapu_lo _).2, fun h => (by omega), D.out, by simp⟩
       case measure => simp [intOf]; omega
   ·have F := Lib.hid (numO_bad (l := s.data.toList) (.inr (.inl (by omega))))
    clear hsz HXN HA
    go_wp2
    go_ret2
    rw [F.out]
    exact ⟨X, rfl, fun h => (by cases h), Below.refl _ _⟩
  ·obtain rfl : q = s.size := by omega
   have hall := HA.out
   rw [List.take_of_length_le (by omega)] at hall
   by_cases h19 : s.size ≤ 19
   ·have hX := HXN.out h19
    rw [List.take_of_length_le (by omega)] at hX
    have HD := Lib.hid (numO_dec_eq hall (by omega))
    have HS := Lib.hid (fun (h : (numO s.data.toList).isSome = true) => show numV s.data.toList = numN s.data.toList from by
     obtain ⟨n, hn⟩ := Option.isSome_iff_exists.1 h
     unfold numN
     rw [hn]
     rw [(numO_some hn).1, dec_val]
     rfl)
    have HF := Lib.hid (lib_FormatUint' hX0 hX1 wr ht)
    have HX := Lib.hid hX
    clear hX hall HA HXN
    obtain ⟨dX, hdX⟩ : ∃ d, d = bytesOf (Lib.decDigits X.toNat) := ⟨_, rfl⟩
    rw [← hdX] at HF
    have HDX := Lib.hid hdX
    clear hdX hsz
    go_wp2_with fail
    refine HF.out.mono ?_
    rintro e w1 ⟨rfl, hb1⟩
    go_wp2
    go_ret2
    refine ⟨X, ?_, fun h => by rw [HX.out, HS.out h], hb1⟩
    rw [← HD.out, HDX.out, Lib.toList_data, Lib.toList_data, bytesOf_data, HX.out, Int.toNat_natCast]
    rfl
   ·have F := Lib.hid (numO_bad (l := s.data.toList) (.inr (.inl (by omega))))
    clear hsz hall HA HXN
    go_wp2
    go_ret2
    rw [F.out]
    exact ⟨X, rfl, fun h => (by cases h), Below.refl _ _⟩
end Go.Proofs.YtgodgedhddngeaaGreatDoor
