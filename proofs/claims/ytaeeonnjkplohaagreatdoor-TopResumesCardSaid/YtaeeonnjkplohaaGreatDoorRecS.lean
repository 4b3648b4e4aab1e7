/- Lists of records held against each other: walks. -/
import Derived.Test.YtaeeonnjkplohaaGreatDoorRecW
namespace Go.Proofs.YtaeeonnjkplohaaGreatDoor
open Go.RowKit Pl

def sameB (n m : Nat) (rs ss : List Rec) : Bool := (n == m) && (List.range n).all fun j => sameR (recAt rs j) (recAt ss j)
theorem sameB_true {n m : Nat} {rs ss : List Rec} (h : n = m) (ha : ∀ j, j < n → sameR (recAt rs j) (recAt ss j) = true) : sameB n m rs ss = true := by
  unfold sameB
  rw [Bool.and_eq_true, beq_iff_eq, List.all_eq_true]
  exact ⟨h, fun j hj => ha j (List.mem_range.1 hj)⟩
theorem sameB_no {n m : Nat} {rs ss : List Rec} (h : n ≠ m) : sameB n m rs ss = false := by
  unfold sameB
  rw [beq_eq_false_iff_ne.2 h]; rfl
theorem sameB_at {n m : Nat} {rs ss : List Rec} {k : Nat} (hk : k < n) (h : sameR (recAt rs k) (recAt ss k) = false) : sameB n m rs ss = false := by
  cases hb : sameB n m rs ss
  · rfl
  · unfold sameB at hb
    rw [Bool.and_eq_true, List.all_eq_true] at hb
    rw [hb.2 k (List.mem_range.2 hk)] at h
    cases h

set_option maxRecDepth 100000 in
set_option maxHeartbeats 4000000 in
theorem rec_EqualFunc (A B : Option Addr) (n m c d : Nat) (rs ss : List Rec) (w : World) (hx : RecsR w A n rs) (hy : RecsR w B m ss) (hn : n ≤ 9223372036854775806) (hs : ∀ j, j < n → (recAt rs j).batch.length ≤ 9223372036854775806 ∨ (recAt ss j).batch.length ≤ 9223372036854775806) :
    Calls Tryz.prog 36 #[.slice A n c, .slice B m d, .func (.func 37) #[] #[]] w fun e w' => e = .returned (.bool (sameB n m rs ss)) ∧ Below w.heap.size w w' := by
  by_cases hnm : n = m
  · subst hnm
    have HA := Lib.hid (fun h => sameB_true (rs := rs) (ss := ss) (n := n) rfl h)
    have HF := Lib.hid (fun k hk h => sameB_at (rs := rs) (ss := ss) (n := n) (m := n) (k := k) hk h)
    have HS := Lib.hid hs
    clear hs
    go_enter Tryz.func36, Tryz.ntmps36
    go_wp2
    go_loopw [7, 8, 9, 17] (fun _ _ _ j wr => ∃ k : Nat, k ≤ n ∧ j = .int .i64 k ∧ (∀ i, i < k → sameR (recAt rs i) (recAt ss i) = true) ∧ Below w.heap.size w wr) (fun _ _ _ j _ => n - (intOf j).toNat)
    case atStart => exact ⟨0, by omega, rfl, fun i hi => absurd hi (by omega), Below.refl _ _⟩
    case round =>
      obtain ⟨k, hk, rfl, hall, hb⟩ := hrel
      have HALL := Lib.hid hall
      clear hall
      by_cases hlt : k < n
      · obtain ⟨xb, xo, XL, xk, rfl, xlt, ⟨x0, x1, x2, x3, x4⟩, XI, _⟩ := (hx.below hb).at hlt
        obtain ⟨yb, yo, YL, yk, rfl, ylt, ⟨y0, y1, y2, y3, y4⟩, YI, _⟩ := (hy.below hb).at hlt
        have hh := HS.out k hlt
        have k0 : (0 : Int) ≤ (k : Int) := by omega
        have k1 : (k : Int) < (n : Int) := by omega
        have hsame := Lib.hid (fun W (h : Below wr.heap.size wr W) => ref_Same1 (recAt rs k) (recAt ss k) XL YL _ xk _ yk W (XI.below h) (YI.below h) hh)
        have hbs := hb.size
        have HFk := Lib.hid (HF.out k hlt)
        obtain ⟨ra, hra⟩ : ∃ ra, ra = recAt rs k := ⟨_, rfl⟩
        obtain ⟨rb, hrb⟩ : ∃ rb, rb = recAt ss k := ⟨_, rfl⟩
        have RA := Lib.hid hra
        have RB := Lib.hid hrb
        rw [← hra] at x0 x1 x2 x3 x4 hsame HFk
        rw [← hrb] at y0 y1 y2 y3 y4 hsame HFk
        clear hra hrb XI YI hh
        have b2 : Below wr.heap.size wr ((wr.alloc (.cells #[.int .i64 ra.step, .slice XL ra.batch.length xk, .int .i64 ra.rate, .int .u64 ra.root, .int .u64 ra.chain] 40)).alloc (.cells #[.int .i64 rb.step, .slice YL rb.batch.length yk, .int .i64 rb.rate, .int .u64 rb.root, .int .u64 rb.chain] 40)) := (by repeat (first | exact Below.refl _ _ | assumption | refine bel_drewN ?_ _ | refine Below.drew ?_ | (refine Below.alloc ?_ (by simp <;> omega) _) | (refine Below.setCell ?_ (by simp <;> omega) _)))
        have HC := Lib.hid (hsame.out _ b2)
        clear hsame
        cases hr : sameR ra rb
        · rw [hr] at HC
          have F := Lib.hid (HFk.out hr)
          clear hr
          go_wp2_with fail
          refine HC.out.mono ?_
          rintro e u ⟨rfl, hbu⟩
          go_wp2
          go_ret
          rw [F.out]
          exact ⟨rfl, hb.trans ((b2.trans (hbu.mono b2.size)).mono hb.size)⟩
        · rw [hr] at HC
          have RR := Lib.hid hr
          clear hr
          go_wp2_with fail
          refine HC.out.mono ?_
          rintro e u ⟨rfl, hbu⟩
          go_wp2
          go_roundw
          case rel =>
            refine ⟨k + 1, by omega, by go_num, fun i hi => ?_, hb.trans ((b2.trans (hbu.mono b2.size)).mono hb.size)⟩
            by_cases hik : i = k
            · subst hik; rw [← RA.out, ← RB.out]; exact RR.out
            · exact HALL.out i (by omega)
          case measure => simp [intOf]; omega
      · obtain rfl : k = n := by omega
        have F := Lib.hid (HA.out HALL.out)
        go_wp2
        go_ret
        rw [F.out]
        exact ⟨rfl, hb⟩
  · have t : ((n : Int) != (m : Int)) = true := by rw [bne_iff_ne]; omega
    have F := Lib.hid (sameB_no (rs := rs) (ss := ss) hnm)
    clear hnm hs
    go_enter Tryz.func36, Tryz.ntmps36
    go_wp2
    go_ret
    rw [F.out]
    exact ⟨rfl, Below.refl _ _⟩

set_option maxHeartbeats 2000000 in
theorem ref_SameRecords (A B : Option Addr) (n m c d : Nat) (rs ss : List Rec) (w : World) (hx : RecsR w A n rs) (hy : RecsR w B m ss) (hn : n ≤ 9223372036854775806) (hs : ∀ j, j < n → (recAt rs j).batch.length ≤ 9223372036854775806 ∨ (recAt ss j).batch.length ≤ 9223372036854775806) :
    Calls Tryz.prog 18 #[.slice A n c, .slice B m d] w fun e w' => e = .returned (.bool (sameB n m rs ss)) ∧ Below w.heap.size w w' := by
  have H := Lib.hid (rec_EqualFunc A B n m c d rs ss w hx hy hn hs)
  clear hx hy hn hs
  go_enter Tryz.func18, Tryz.ntmps18
  go_wp2_with fail
  refine H.out.mono ?_
  rintro e u ⟨rfl, hbu⟩
  go_wp2
  go_ret
  exact ⟨rfl, hbu⟩

theorem RecHeld.pre {m : Option Nat} {B : Nat} {f : Nat → Rec} {k : Nat} {A : Option Addr} {c : Nat} {w : World} (h : RecHeld m B f k (.slice A k c) w) {j : Nat} (hj : j ≤ k) {A' : Option Addr} (hA : 0 < j → A' = A) : RecsK w A' j (upto f j) := by
  refine ⟨upto_length _ _, fun hj0 => ?_⟩
  obtain ⟨b, off, e, hb, hc⟩ := (RecHeld.recs h).cells (by omega)
  refine ⟨b, off, (hA hj0).trans e, hb, fun i hi => ?_⟩
  obtain ⟨cs, h1, h2⟩ := hc i (by omega)
  rw [recAt_upto f (by omega)] at h1
  rw [recAt_upto f hi]
  exact ⟨cs, h1, h2⟩
theorem sameB_self (n : Nat) (rs : List Rec) : sameB n n rs rs = true := sameB_true rfl fun _ _ => sameR_self _
end Go.Proofs.YtaeeonnjkplohaaGreatDoor
