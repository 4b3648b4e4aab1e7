/- What the calls of package vec compute, further: multiples of lists, products with matrices: walks, each function once. -/
import Derived.Test.YtflljldlfgpimaaVecW
namespace Go.Proofs.Ytflljldlfgpimaa
open Go.RowKit Pl

set_option maxHeartbeats 1000000 in
theorem vec_Times_no (A : Option Addr) (n c : Nat) (x : Int) (w : World) (h : 200 < n) :
    Calls Try.prog 30 #[.slice A n c, .int .i64 x] w fun e w' => e = .returned (.tuple #[.slice none 0 0, .int .i64 2]) ∧ Below w.heap.size w w' := by
  have HA := Lib.hid ((large1 A n c).trans (decide_eq_true h))
  clear h
  go_enter Try.func30, Try.ntmps30
  go_wp2_with (go_at_call 66; refine (vec_large _ 1 1 [.slice A n c] _ (Vals.made _ _ _ _ _ rfl rfl) (by omega) (by simp)).mono ?_; rintro e w1 ⟨rfl, k, rfl⟩; rw [HA.out])
  go_ret2
  exact ⟨rfl, (by repeat (first | exact Below.refl _ _ | assumption | refine bel_drewN ?_ _ | refine Below.drew ?_ | (refine Below.alloc ?_ (by simp <;> omega) _)))⟩

set_option maxRecDepth 100000 in
set_option maxHeartbeats 2000000 in
theorem vec_Times_ok (A : Option Addr) (n c : Nat) (x : Int) (xs : List Int) (w : World) (hx : Ints .i64 w A n xs) (hn : n ≤ 200) :
    Calls Try.prog 30 #[.slice A n c, .int .i64 x] w (OwnRes w (timesL xs x) 0) := by
  have HA := Lib.hid ((large1 A n c).trans (decide_eq_false (show ¬ 200 < n by omega)))
  obtain ⟨i0, hi0, hz0, hz1, hz2⟩ := info_parts int_info
  go_enter Try.func30, Try.ntmps30
  go_wp2_with (go_at_call 66; refine (vec_large _ 1 1 [.slice A n c] _ (Vals.made _ _ _ _ _ rfl rfl) (by omega) (by simp)).mono ?_; rintro e w1 ⟨rfl, k, rfl⟩; rw [HA.out])
  go_loopw [6, 8, 14] (fun o _ i wr => ∃ j : Nat, j ≤ n ∧ i = .int .i64 j ∧ wr.ownsRow w.heap.size 3 1 o j ((upto (fun j => mulF (at0 xs j) x) j).map (.int .i64)) ∧ Below w.heap.size w wr) (fun _ _ i _ => n - (intOf i).toNat)
  case atStart => exact ⟨0, Nat.zero_le _, rfl, World.ownsRow_nil _ _ _ _, (by repeat (first | exact Below.refl _ _ | assumption | refine bel_drewN ?_ _ | refine Below.drew ?_ | (refine Below.alloc ?_ (by simp <;> omega) _)))⟩
  case round =>
    obtain ⟨j, hk, rfl, hown, hb⟩ := hrel
    by_cases hlt : j < n
    · obtain ⟨b, off, rfl, hbl, hc⟩ := hx.cells (by omega)
      have g1 := (hb.cell (p := ⟨b, off + j, none⟩) hbl).trans (hc j hlt)
      have hbs := hb.size
      clear hc
      go_wp2_with (first
        | (go_at_call 15; refine (fix_Mul _ _ _).mono ?_; rintro e w2 ⟨rfl, hq2⟩; have hown2 := own_quiet hown hq2; have hbq := Quiet.after hb hq2)
        | (at_builtin; refine wpList_append_own _ rfl _ _ 31 rfl w.heap.size 3 i0 (.int .i64 0) 1 8 Try.underlying31 hi0 hz0 hz1 hz2 rfl (by decide) u6 j _ rfl (hown2.alloc _) ⟨w2.heap.size, 0, none⟩ 1 1 [.int .i64 (mulF (at0 xs j) x)] rfl rfl (cell_one_new _ _ _) (by simp [Value.oneCell']) (by unfold maxLen; omega) (by omega) (by have := hbq.size; simp; omega) ?_; intro v1 w1 hown1 hgrow _))
      have hb2 : Below w.heap.size w w1 := Below.grown (hbq.alloc hbq.size _) hgrow (by have := hbq.size; simp; omega) (fun x hx => (hown.lt x hx).1)
      rw [← List.map_singleton, ← List.map_append, ← upto_succ (fun j => mulF (at0 xs j) x)] at hown1
      clear hgrow
      go_roundw
      case rel => exact ⟨j + 1, by omega, by go_num, hown1, hb2⟩
      case measure => simp [intOf]; omega
    · have : j = n := by omega
      subst this
      go_wp2
      go_ret2
      exact own_res (timesL_length xs x |>.trans hx.len) (by unfold timesL; rw [hx.len]; exact hown) hb
end Go.Proofs.Ytflljldlfgpimaa
