/- What is wrong with a config, and the rate: package optim's calls, and the document's own text: walks, each function once. -/
import Derived.Test.YtejkkbjepgghlaaPupBox
import Derived.Test.YtejkkbjepgghlaaOptPl
namespace Go.Proofs.Ytejkkbjepgghlaa
open Go.RowKit Pl

def cfgB (ci ch co ba st ra de hw ke cl : Int) : Bool :=
  inB ci 1 4 && inB ch 1 4 && inB co 1 4 && inB ba 1 8 && inB st 1 40 && inB ra 0 2147483647 && inB de 0 1 && inB hw 0 1 && inB ke 0 65536 && inB cl 0 2147483647
def cfgE (ci ch co ba st ra de hw ke cl : Int) : Int := if cfgB ci ch co ba st ra de hw ke cl then 0 else 1
theorem inB_iff {n lo hi : Int} : inB n lo hi = true ↔ lo ≤ n ∧ n ≤ hi := by unfold inB; rw [decide_eq_true_eq]
theorem cfgE_ok {ci ch co ba st ra de hw ke cl : Int} (h : cfgE ci ch co ba st ra de hw ke cl = 0) : (1 ≤ ci ∧ ci ≤ 4) ∧ (1 ≤ ch ∧ ch ≤ 4) ∧ (1 ≤ co ∧ co ≤ 4) ∧ (1 ≤ ba ∧ ba ≤ 8) ∧ (1 ≤ st ∧ st ≤ 40) ∧ (0 ≤ ra ∧ ra ≤ 2147483647) ∧ (0 ≤ de ∧ de ≤ 1) ∧ (0 ≤ hw ∧ hw ≤ 1) ∧ (0 ≤ ke ∧ ke ≤ 65536) ∧ (0 ≤ cl ∧ cl ≤ 2147483647) := by
  have hb : cfgB ci ch co ba st ra de hw ke cl = true := by
    cases hc : cfgB ci ch co ba st ra de hw ke cl
    · unfold cfgE at h; rw [hc] at h; simp at h
    · rfl
  unfold cfgB at hb
  simp only [Bool.and_eq_true, inB_iff] at hb
  obtain ⟨⟨⟨⟨⟨⟨⟨⟨⟨a, b⟩, c⟩, d⟩, e⟩, f⟩, g⟩, i⟩, j⟩, k⟩ := hb
  exact ⟨a, b, c, d, e, f, g, i, j, k⟩
theorem cfgE_01 (ci ch co ba st ra de hw ke cl : Int) : cfgE ci ch co ba st ra de hw ke cl = 0 ∨ cfgE ci ch co ba st ra de hw ke cl = 1 := by unfold cfgE; split <;> simp

set_option maxHeartbeats 400000 in
theorem opt_within (n lo hi : Int) (w : World) : Calls Try.prog 78 #[.int .i64 n, .int .i64 lo, .int .i64 hi] w fun e w' => e = .returned (.bool (inB n lo hi)) ∧ w = w' := by
  by_cases h : lo ≤ n
  · have h1 : decide (lo ≤ n) = true := decide_eq_true h
    go_enter Try.func78, Try.ntmps78
    go_wp2
    go_ret
    exact ⟨ret_bool (by simp [inB, h]), rfl⟩
  · have h1 : decide (lo ≤ n) = false := decide_eq_false h
    go_enter Try.func78, Try.ntmps78
    go_wp2
    go_ret
    exact ⟨ret_bool (inB_no (by omega)).symm, rfl⟩

set_option maxRecDepth 100000 in
set_option maxHeartbeats 4000000 in
theorem opt_Check (ci ch co se ba st ra de hw ke cl : Int) (w : World) : Calls Try.prog 23 #[.agg #[.int .i64 ci, .int .i64 ch, .int .i64 co, .int .u64 se, .int .i64 ba, .int .i64 st, .int .i64 ra, .int .i64 de, .int .i64 hw, .int .i64 ke, .int .i64 cl]] w fun e w' => e = .returned (.int .i64 (cfgE ci ch co ba st ra de hw ke cl)) ∧ Below w.heap.size w w' := by
  go_enter Try.func23, Try.ntmps23
  go_wp2
  refine wp_loop_rounds 4 ?_
  cases b0 : inB ci 1 4
  · rw [rounds_succ]
    go_wp2_with (go_at_call 78; refine (opt_within _ _ _ _).mono ?_; rintro e w' ⟨rfl, rfl⟩)
    go_ret
    exact ⟨ret_int (by simp [cfgE, cfgB, b0]), (by repeat (first | exact Below.refl _ _ | assumption | refine bel_drewN ?_ _ | refine Below.drew ?_ | (refine Below.alloc ?_ (by simp <;> omega) _) | (refine Below.setCell ?_ (by simp <;> omega) _)))⟩
  cases b1 : inB ch 1 4
  · rw [rounds_succ]
    go_wp2_with (go_at_call 78; refine (opt_within _ _ _ _).mono ?_; rintro e w' ⟨rfl, rfl⟩)
    rw [rounds_succ]
    go_wp2_with (go_at_call 78; refine (opt_within _ _ _ _).mono ?_; rintro e w' ⟨rfl, rfl⟩)
    go_ret
    exact ⟨ret_int (by simp [cfgE, cfgB, b1]), (by repeat (first | exact Below.refl _ _ | assumption | refine bel_drewN ?_ _ | refine Below.drew ?_ | (refine Below.alloc ?_ (by simp <;> omega) _) | (refine Below.setCell ?_ (by simp <;> omega) _)))⟩
  cases b2 : inB co 1 4
  · rw [rounds_succ]
    go_wp2_with (go_at_call 78; refine (opt_within _ _ _ _).mono ?_; rintro e w' ⟨rfl, rfl⟩)
    rw [rounds_succ]
    go_wp2_with (go_at_call 78; refine (opt_within _ _ _ _).mono ?_; rintro e w' ⟨rfl, rfl⟩)
    rw [rounds_succ]
    go_wp2_with (go_at_call 78; refine (opt_within _ _ _ _).mono ?_; rintro e w' ⟨rfl, rfl⟩)
    go_ret
    exact ⟨ret_int (by simp [cfgE, cfgB, b2]), (by repeat (first | exact Below.refl _ _ | assumption | refine bel_drewN ?_ _ | refine Below.drew ?_ | (refine Below.alloc ?_ (by simp <;> omega) _) | (refine Below.setCell ?_ (by simp <;> omega) _)))⟩
  rw [rounds_succ]
  go_wp2_with (go_at_call 78; refine (opt_within _ _ _ _).mono ?_; rintro e w' ⟨rfl, rfl⟩)
  rw [rounds_succ]
  go_wp2_with (go_at_call 78; refine (opt_within _ _ _ _).mono ?_; rintro e w' ⟨rfl, rfl⟩)
  rw [rounds_succ]
  go_wp2_with (go_at_call 78; refine (opt_within _ _ _ _).mono ?_; rintro e w' ⟨rfl, rfl⟩)
  rw [rounds_succ]
  go_wp2_with (go_at_call 78; refine (opt_within _ _ _ _).mono ?_; rintro e w' ⟨rfl, rfl⟩)
  all_goals go_ret
  all_goals exact ⟨ret_int (by simp_all [cfgE, cfgB]), (by repeat (first | exact Below.refl _ _ | assumption | refine bel_drewN ?_ _ | refine Below.drew ?_ | (refine Below.alloc ?_ (by simp <;> omega) _) | (refine Below.setCell ?_ (by simp <;> omega) _)))⟩

set_option maxRecDepth 100000 in
set_option maxHeartbeats 4000000 in
theorem ref_Config (ci ch co se ba st ra de hw ke cl : Int) (w : World) : Calls Try.prog 14 #[.agg #[.int .i64 ci, .int .i64 ch, .int .i64 co, .int .u64 se, .int .i64 ba, .int .i64 st, .int .i64 ra, .int .i64 de, .int .i64 hw, .int .i64 ke, .int .i64 cl]] w fun e w' => e = .returned (.int .i64 (cfgE ci ch co ba st ra de hw ke cl)) ∧ Below w.heap.size w w' := by
  go_enter Try.func14, Try.ntmps14
  go_wp2_with (go_at_call 15; refine (ref_In _ _ _ _).mono ?_; rintro e w' ⟨rfl, rfl⟩)
  all_goals go_ret
  all_goals exact ⟨ret_int (by simp_all [cfgE, cfgB]), (by repeat (first | exact Below.refl _ _ | assumption | refine bel_drewN ?_ _ | refine Below.drew ?_ | (refine Below.alloc ?_ (by simp <;> omega) _) | (refine Below.setCell ?_ (by simp <;> omega) _)))⟩
end Go.Proofs.Ytejkkbjepgghlaa
