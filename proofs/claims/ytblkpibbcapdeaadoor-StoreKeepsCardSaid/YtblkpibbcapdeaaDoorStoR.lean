/- The store: may a record be told? Walks of store.right and of the document's Line. -/
import Derived.Test.YtblkpibbcapdeaaDoorStoF
import Derived.Laws.EntriesVeiled
import Derived.Test.YtblkpibbcapdeaaDoorStoP
import Derived.Test.YtblkpibbcapdeaaDoorHeld
import Derived.Test.YtblkpibbcapdeaaDoorRecW
namespace Go.Proofs.YtblkpibbcapdeaaDoor
open Go.RowKit Pl

def smB (n : Int) : Bool := decide (0 ≤ n) && decide (n ≤ 99)
theorem sto_small (n : Int) (w : World) : Calls Tryd.prog 40 #[.int .i64 n] w fun e w' => e = .returned (.bool (smB n)) ∧ w' = w := by
  by_cases h0 : 0 ≤ n
  · by_cases h1 : n ≤ 99
    · have F : smB n = true := by unfold smB; simp [h0, h1]
      rw [F]
      go_enter Tryd.func40, Tryd.ntmps40
      go_wp2
      go_ret
      exact ⟨rfl, rfl⟩
    · have F : smB n = false := by unfold smB; simp [h0, h1]
      rw [F]
      go_enter Tryd.func40, Tryd.ntmps40
      go_wp2
      go_ret
      exact ⟨rfl, rfl⟩
  · have F : smB n = false := by unfold smB; simp [h0]
    rw [F]
    go_enter Tryd.func40, Tryd.ntmps40
    go_wp2
    go_ret
    exact ⟨rfl, rfl⟩
theorem sto_big (n : Int) (q : Nat) (w : World) (hq : w.cell? ⟨q, 0, none⟩ = some (.func (.func 40) #[] #[])) :
    Calls Tryd.prog 42 #[.int .i64 n, .pointer (some ⟨q, 0, none⟩)] w fun e w' => e = .returned (.bool (!smB n)) ∧ w' = w := by
  go_enter Tryd.func42, Tryd.ntmps42
  go_wp2_with (go_at_call 40; refine (sto_small n _).mono ?_; rintro e w' ⟨rfl, rfl⟩)
  go_ret
  exact ⟨rfl, rfl⟩
theorem any_take (xs : List Int) (p : Int → Bool) (n : Nat) (hl : xs.length = n) (h : ∀ j, j < n → p (at0 xs j) = false) : xs.any p = false := by
  rw [List.any_eq_false]
  intro x hx
  obtain ⟨j, hj, e⟩ := List.mem_iff_getElem.1 hx
  have := h j (by omega)
  unfold at0 at this
  rw [List.getElem?_eq_getElem hj] at this
  simp only [Option.getD_some] at this
  rw [← e, this]
  simp
theorem any_hit (xs : List Int) (p : Int → Bool) (n j : Nat) (hl : xs.length = n) (hj : j < n) (h : p (at0 xs j) = true) : xs.any p = true := by
  rw [List.any_eq_true]
  unfold at0 at h
  rw [List.getElem?_eq_getElem (by omega)] at h
  exact ⟨_, List.getElem_mem _, h⟩
set_option maxHeartbeats 2000000 in
theorem sto_index (A : Option Addr) (m c : Nat) (xs : List Int) (q : Nat) (w : World) (hx : Ints .i64 w A m xs) (hm : m ≤ 9223372036854775807) (hq : w.cell? ⟨q, 0, none⟩ = some (.func (.func 40) #[] #[])) :
    Calls Tryd.prog 53 #[.slice A m c, .func (.func 42) #[] #[.pointer (some ⟨q, 0, none⟩)]] w fun e w' => ∃ r : Int, e = .returned (.int .i64 r) ∧ decide (0 ≤ r) = xs.any (fun n => !smB n) ∧ w' = w := by
  have HC := Lib.hid (fun n => sto_big n q w hq)
  have HA := Lib.hid (any_take xs (fun n => !smB n) m hx.len)
  have HH := Lib.hid (fun j hj h => any_hit xs (fun n => !smB n) m j hx.len hj h)
  clear hq
  go_enter Tryd.func53, Tryd.ntmps53
  go_wp2
  go_loopw [5, 8] (fun _ i wr => ∃ k : Nat, k ≤ m ∧ i = .int .i64 k ∧ wr = w ∧ ∀ j, j < k → (!smB (at0 xs j)) = false) (fun _ i _ => m - (intOf i).toNat)
  case atStart => exact ⟨0, Nat.zero_le _, rfl, rfl, fun j hj => absurd hj (by omega)⟩
  case round =>
    obtain ⟨k, hk, rfl, hwr, hall⟩ := hrel
    have HALL := Lib.hid hall
    clear hall
    by_cases hlt : k < m
    · obtain ⟨b, off, rfl, hbl, hc⟩ := hx.cells (by omega)
      have g1 := hc k hlt
      have HHk := Lib.hid (HH.out k hlt)
      obtain ⟨y, hy⟩ : ∃ y, y = at0 xs k := ⟨_, rfl⟩
      rw [← hy] at g1 HHk
      have HY := Lib.hid hy
      subst hwr
      clear hc hy
      have HCy := HC.out y
      cases hs : smB y
      · rw [hs] at HCy
        have HR := Lib.hid (HHk.out (by rw [hs]; rfl))
        clear hs
        go_wp2_with (go_at_call 42; refine HCy.mono ?_; rintro e w1 ⟨rfl, rfl⟩)
        go_ret
        exact ⟨k, rfl, by rw [HR.out]; simp, rfl⟩
      · rw [hs] at HCy
        have HS := Lib.hid hs
        clear hs
        go_wp2_with (go_at_call 42; refine HCy.mono ?_; rintro e w1 ⟨rfl, rfl⟩)
        go_roundw
        case rel =>
          refine ⟨k + 1, by omega, by go_num, by simp, fun j hj => ?_⟩
          by_cases hjk : j = k
          · subst hjk; rw [← HY.out, HS.out]; rfl
          · exact HALL.out j (by omega)
        case measure => simp [intOf]; omega
    · obtain rfl : k = m := by omega
      have HR := Lib.hid (HA.out HALL.out)
      subst hwr
      go_wp2
      go_ret
      exact ⟨-1, rfl, by rw [HR.out]; rfl, rfl⟩
theorem sto_contains (A : Option Addr) (m c : Nat) (xs : List Int) (q : Nat) (w : World) (hx : Ints .i64 w A m xs) (hm : m ≤ 9223372036854775807) (hq : w.cell? ⟨q, 0, none⟩ = some (.func (.func 40) #[] #[])) (b : Bool) (hb : (xs.any fun n => !smB n) = b) :
    Calls Tryd.prog 41 #[.slice A m c, .func (.func 42) #[] #[.pointer (some ⟨q, 0, none⟩)]] w fun e w' => e = .returned (.bool b) ∧ w' = w := by
  have H := Lib.hid (sto_index A m c xs q w hx hm hq)
  have HB := Lib.hid hb
  clear hx hq hb
  go_enter Tryd.func41, Tryd.ntmps41
  go_wp2_with (go_at_call 53; refine H.out.mono ?_; rintro e w1 ⟨r, rfl, hr, rfl⟩; rw [HB.out] at hr)
  go_ret
  exact ⟨rfl, rfl⟩

/-- The record's box. -/
def recV (r : Rec) (A : Option Addr) (n k : Nat) : Array Value := #[.int .i64 r.step, .slice A n k, .int .i64 r.rate, .int .u64 r.root, .int .u64 r.chain]
theorem all_any (xs : List Int) : (xs.all fun n => decide (0 ≤ n) && decide (n ≤ 99)) = !(xs.any fun n => !smB n) := by
  rw [List.not_any_eq_all_not]
  simp [smB]
set_option maxRecDepth 100000 in
set_option maxHeartbeats 4000000 in
theorem sto_right (r : Rec) (A : Option Addr) (n k : Nat) (w : World) (hx : Ints .i64 w A n r.batch) (hn : n ≤ 9223372036854775807) (b0 : 0 ≤ r.root) (b1 : 0 ≤ r.chain) :
    Calls Tryd.prog 26 #[.agg #[.int .i64 r.step, .slice A n k, .int .i64 r.rate, .int .u64 r.root, .int .u64 r.chain]] w fun e w' => e = .returned (.bool (goodR r)) ∧ Below w.heap.size w w' := by
  have bw : Below w.heap.size w ((w.alloc (.cells #[.int .i64 r.step, .slice A n k, .int .i64 r.rate, .int .u64 r.root, .int .u64 r.chain] 25)).alloc (.cells #[.func (.func 40) #[] #[]] 70)) := (by repeat (first | exact Below.refl _ _ | assumption | refine bel_drewN ?_ _ | refine Below.drew ?_ | (refine Below.alloc ?_ (by simp <;> omega) _) | (refine Below.setCell ?_ (by simp <;> omega) _)))
  have hl := hx.len
  have hx2 := (hx.alloc (.cells #[.int .i64 r.step, .slice A n k, .int .i64 r.rate, .int .u64 r.root, .int .u64 r.chain] 25)).alloc (.cells #[.func (.func 40) #[] #[]] 70)
  have HCN := Lib.hid (fun b hb => sto_contains A n k r.batch (w.heap.size + 1) _ hx2 hn (by
    have h := (Blk.made' (w.alloc (.cells #[.int .i64 r.step, .slice A n k, .int .i64 r.rate, .int .u64 r.root, .int .u64 r.chain] 25)) 70 #[.func (.func 40) #[] #[]] (g := w.heap.size + 1) (by simp)).cell 0
    exact h) b hb)
  clear hx hx2
  go_enter Tryd.func26, Tryd.ntmps26
  cases qs : smB r.step
  · have F : goodR r = false := by
      unfold smB at qs
      unfold goodR
      rw [qs]
      rfl
    rw [F]
    have HS := Lib.hid (fun W => by have h := sto_small r.step W; rw [qs] at h; exact h)
    clear F qs
    go_wp2_with (go_at_call 40; refine (HS.out _).mono ?_; rintro e w' ⟨rfl, rfl⟩)
    go_ret
    exact ⟨rfl, bw⟩
  · have HS := Lib.hid (fun W => by have h := sto_small r.step W; rw [qs] at h; exact h)
    have QS := Lib.hid (show decide (0 ≤ r.step) = true ∧ decide (r.step ≤ 99) = true from by unfold smB at qs; simpa only [Bool.and_eq_true] using qs)
    clear qs
    by_cases h1 : 0 ≤ r.rate
    · by_cases h2 : r.rate ≤ 2147483647
      · by_cases h3 : r.root < 2305843009213693951
        · by_cases h4 : r.chain < 2305843009213693951
          · by_cases h5 : (n : Int) ≤ 8
            · have h5' : r.batch.length ≤ 8 := by omega
              cases hc : (r.batch.any fun n => !smB n)
              · have F : goodR r = true := by
                  unfold goodR
                  rw [all_any, hc, QS.out.1, QS.out.2]
                  simp [h1, h2, h3, h4, h5', b0, b1, pS]
                rw [F]
                have HC := Lib.hid (HCN.out false hc)
                clear F hc HCN hl
                go_wp2_with (first | (go_at_call 40; refine (HS.out _).mono ?_; rintro e w' ⟨rfl, rfl⟩) | (go_at_call 41; refine HC.out.mono ?_; rintro e w' ⟨rfl, rfl⟩))
                go_ret
                exact ⟨rfl, bw⟩
              · have F : goodR r = false := by
                  unfold goodR
                  rw [all_any, hc]
                  simp
                rw [F]
                have HC := Lib.hid (HCN.out true hc)
                clear F hc HCN hl
                go_wp2_with (first | (go_at_call 40; refine (HS.out _).mono ?_; rintro e w' ⟨rfl, rfl⟩) | (go_at_call 41; refine HC.out.mono ?_; rintro e w' ⟨rfl, rfl⟩))
                go_ret
                exact ⟨rfl, bw⟩
            · have F : goodR r = false := by
                unfold goodR
                simp [show ¬ r.batch.length ≤ 8 from by omega, pS]
              rw [F]
              clear F HCN
              go_wp2_with (go_at_call 40; refine (HS.out _).mono ?_; rintro e w' ⟨rfl, rfl⟩)
              go_ret
              exact ⟨rfl, bw⟩
          · have F : goodR r = false := by
              unfold goodR
              simp [h4, pS]
            rw [F]
            clear F HCN
            go_wp2_with (go_at_call 40; refine (HS.out _).mono ?_; rintro e w' ⟨rfl, rfl⟩)
            go_ret
            exact ⟨rfl, bw⟩
        · have F : goodR r = false := by
            unfold goodR
            simp [h3, pS]
          rw [F]
          clear F HCN
          go_wp2_with (go_at_call 40; refine (HS.out _).mono ?_; rintro e w' ⟨rfl, rfl⟩)
          go_ret
          exact ⟨rfl, bw⟩
      · have F : goodR r = false := by
          unfold goodR
          simp [h2, pS]
        rw [F]
        clear F HCN
        go_wp2_with (go_at_call 40; refine (HS.out _).mono ?_; rintro e w' ⟨rfl, rfl⟩)
        go_ret
        exact ⟨rfl, bw⟩
    · have F : goodR r = false := by
        unfold goodR
        simp [h1, pS]
      rw [F]
      clear F HCN
      go_wp2_with (go_at_call 40; refine (HS.out _).mono ?_; rintro e w' ⟨rfl, rfl⟩)
      go_ret
      exact ⟨rfl, bw⟩
end Go.Proofs.YtblkpibbcapdeaaDoor
