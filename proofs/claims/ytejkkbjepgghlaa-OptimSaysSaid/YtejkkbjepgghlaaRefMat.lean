/- What the document's own text computes of bounds, matrices and pupils: walks, each function once. -/
import Derived.Test.YtejkkbjepgghlaaVecW
import Derived.Test.YtejkkbjepgghlaaPupPl
namespace Go.Proofs.Ytejkkbjepgghlaa
open Go.RowKit Pl

def inB (n lo hi : Int) : Bool := decide (lo ≤ n ∧ n ≤ hi)
theorem inB_yes {n lo hi : Int} (h : lo ≤ n ∧ n ≤ hi) : inB n lo hi = true := decide_eq_true h
theorem inB_no {n lo hi : Int} (h : ¬ (lo ≤ n ∧ n ≤ hi)) : inB n lo hi = false := decide_eq_false h
theorem inB_side (n : Int) : inB n 1 4 = sideB n := rfl

set_option maxHeartbeats 400000 in
theorem ref_In (n lo hi : Int) (w : World) : Calls Try.prog 15 #[.int .i64 n, .int .i64 lo, .int .i64 hi] w fun e w' => e = .returned (.bool (inB n lo hi)) ∧ w = w' := by
  by_cases h : lo ≤ n
  · have h1 : decide (lo ≤ n) = true := decide_eq_true h
    go_enter Try.func15, Try.ntmps15
    go_wp2
    go_ret
    exact ⟨ret_bool (by simp [inB, h]), rfl⟩
  · have h1 : decide (lo ≤ n) = false := decide_eq_false h
    go_enter Try.func15, Try.ntmps15
    go_wp2
    go_ret
    exact ⟨ret_bool (inB_no (by omega)).symm, rfl⟩

theorem okL_take_succ {xs : List Int} {k : Nat} (hk : k < xs.length) : okL (xs.take (k + 1)) = (okL (xs.take k) && (clamp (at0 xs k) == at0 xs k)) := by
  rw [List.take_succ_eq_append_getElem hk, okL_append, at0_getElem _ _ hk]
  unfold okL
  rw [List.all_cons, List.all_nil, Bool.and_true, Bool.beq_comm]

set_option maxHeartbeats 1000000 in
theorem ref_Right (A : Option Addr) (n c : Nat) (xs : List Int) (w : World) (hx : Ints .i64 w A n xs) (hn : n ≤ 9223372036854775807) :
    Calls Try.prog 74 #[.slice A n c] w fun e w' => e = .returned (.bool (okL xs)) ∧ Quiet w w' := by
  go_enter Try.func74, Try.ntmps74
  go_wp2
  go_loopw [3, 4] (fun o i wr => ∃ k : Nat, k ≤ n ∧ i = .int .i64 k ∧ o = .bool (okL (xs.take k)) ∧ Quiet w wr) (fun _ i _ => n - (intOf i).toNat)
  case atStart => exact ⟨0, Nat.zero_le _, rfl, rfl, Quiet.refl _⟩
  case round =>
    obtain ⟨k, hk, rfl, rfl, hq⟩ := hrel
    by_cases hlt : k < n
    · obtain ⟨b, off, rfl, hb, hc⟩ := (hx.quiet hq).cells (by omega)
      have g1 := hc k hlt
      have F := Lib.hid (okL_take_succ (xs := xs) (k := k) (by rw [hx.len]; exact hlt))
      clear hc
      cases ho : okL (xs.take k)
      · have HO := Lib.hid ho
        go_wp2
        go_quiet (fail)
        go_wp2
        go_roundw
        case rel => exact ⟨k + 1, by omega, by go_num, by rw [F.out, HO.out]; rfl, hq.step _⟩
        case measure => simp [intOf]; omega
      · have HO := Lib.hid ho
        go_wp2
        go_quiet ((go_at_call 75; exact Calls.quiet_of ((ref_Clamp _ _).mono fun _ _ ⟨he, hw⟩ => ⟨he, 0, hw.symm⟩)))
        go_wp2
        go_roundw
        case rel => exact ⟨k + 1, by omega, by go_num, by rw [F.out, HO.out]; rfl, hq.step _⟩
        case measure => simp [intOf]; omega
    · have : k = n := by omega
      subst this
      go_wp2
      go_ret
      exact ⟨ret_bool (by rw [List.take_of_length_le (by rw [hx.len]; omega)]), hq⟩

set_option maxHeartbeats 1000000 in
theorem ref_Matrix (r c : Int) (A : Option Addr) (n cap : Nat) (xs : List Int) (w : World) (hx : Ints .i64 w A n xs) (hn : n ≤ 9223372036854775807) :
    Calls Try.prog 85 #[(.agg #[.int .i64 r, .int .i64 c, .slice A n cap])] w fun e w' => e = .returned (.int .i64 (matE r c xs)) ∧ Below w.heap.size w w' := by
  cases hr : sideB r
  · have F := Lib.hid (matE_1 (c := c) (A := xs) hr)
    go_enter Try.func85, Try.ntmps85
    go_wp2_with (first | (go_at_call 15; refine (ref_In _ _ _ _).mono ?_; rintro e w' ⟨rfl, rfl⟩; rw [inB_side]) | (go_at_call 74; refine (ref_Right A n cap xs _ (hx.alloc _) hn).mono ?_; rintro e w' ⟨rfl, k, rfl⟩))
    go_ret
    exact ⟨ret_int F.out.symm, (by repeat (first | exact Below.refl _ _ | assumption | refine bel_drewN ?_ _ | refine Below.drew ?_ | (refine Below.alloc ?_ (by simp <;> omega) _) | (refine Below.setCell ?_ (by simp <;> omega) _)))⟩
  cases hc : sideB c
  · have F := Lib.hid (matE_2 (A := xs) hr hc)
    go_enter Try.func85, Try.ntmps85
    go_wp2_with (first | (go_at_call 15; refine (ref_In _ _ _ _).mono ?_; rintro e w' ⟨rfl, rfl⟩; rw [inB_side]) | (go_at_call 74; refine (ref_Right A n cap xs _ (hx.alloc _) hn).mono ?_; rintro e w' ⟨rfl, k, rfl⟩))
    go_ret
    exact ⟨ret_int F.out.symm, (by repeat (first | exact Below.refl _ _ | assumption | refine bel_drewN ?_ _ | refine Below.drew ?_ | (refine Below.alloc ?_ (by simp <;> omega) _) | (refine Below.setCell ?_ (by simp <;> omega) _)))⟩
  obtain ⟨m1, m2⟩ := side_mul (sideB_iff.1 hr) (sideB_iff.1 hc)
  by_cases hl : (n : Int) = r * c
  · have hl1 : ((n : Int) != r * c) = false := by rw [bne_eq_false_iff_eq]; exact hl
    have hl2 := Lib.hid hl
    clear hl
    cases ho : okL xs
    · have F := Lib.hid (matE_4 hr hc ho)
      go_enter Try.func85, Try.ntmps85
      go_wp2_with (first | (go_at_call 15; refine (ref_In _ _ _ _).mono ?_; rintro e w' ⟨rfl, rfl⟩; rw [inB_side]) | (go_at_call 74; refine (ref_Right A n cap xs _ (hx.alloc _) hn).mono ?_; rintro e w' ⟨rfl, k, rfl⟩))
      go_ret
      exact ⟨ret_int F.out.symm, (by repeat (first | exact Below.refl _ _ | assumption | refine bel_drewN ?_ _ | refine Below.drew ?_ | (refine Below.alloc ?_ (by simp <;> omega) _) | (refine Below.setCell ?_ (by simp <;> omega) _)))⟩
    · have F := Lib.hid (matE_5 hr hc (by rw [hx.len]; exact hl2.out) ho)
      go_enter Try.func85, Try.ntmps85
      go_wp2_with (first | (go_at_call 15; refine (ref_In _ _ _ _).mono ?_; rintro e w' ⟨rfl, rfl⟩; rw [inB_side]) | (go_at_call 74; refine (ref_Right A n cap xs _ (hx.alloc _) hn).mono ?_; rintro e w' ⟨rfl, k, rfl⟩))
      go_ret
      exact ⟨ret_int F.out.symm, (by repeat (first | exact Below.refl _ _ | assumption | refine bel_drewN ?_ _ | refine Below.drew ?_ | (refine Below.alloc ?_ (by simp <;> omega) _) | (refine Below.setCell ?_ (by simp <;> omega) _)))⟩
  · have hl1 : ((n : Int) != r * c) = true := by rw [bne_iff_ne]; exact hl
    have F := Lib.hid (matE_3 hr hc (A := xs) (by rw [hx.len]; exact hl))
    go_enter Try.func85, Try.ntmps85
    go_wp2_with (first | (go_at_call 15; refine (ref_In _ _ _ _).mono ?_; rintro e w' ⟨rfl, rfl⟩; rw [inB_side]) | (go_at_call 74; refine (ref_Right A n cap xs _ (hx.alloc _) hn).mono ?_; rintro e w' ⟨rfl, k, rfl⟩))
    go_ret
    exact ⟨ret_int F.out.symm, (by repeat (first | exact Below.refl _ _ | assumption | refine bel_drewN ?_ _ | refine Below.drew ?_ | (refine Below.alloc ?_ (by simp <;> omega) _) | (refine Below.setCell ?_ (by simp <;> omega) _)))⟩
end Go.Proofs.Ytejkkbjepgghlaa
