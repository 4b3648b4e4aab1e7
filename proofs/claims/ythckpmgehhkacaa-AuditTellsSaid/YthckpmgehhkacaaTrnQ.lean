/- Package train: Run that is refused: a walk. -/
import Derived.Test.YthckpmgehhkacaaTrnY
namespace Go.Proofs.Ythckpmgehhkacaa
open Go.RowKit Pl

theorem state_info : (Try.prog.info? 35).map (fun i => (i.zero, i.size, i.bytes)) = some (some (.agg #[.slice none 0 0, .slice none 0 0]), 2, 48) := by kernel_rfl
theorem start_fine (c : Cfg) (hE : c.E = 0) (s0 : 0 ≤ c.seed) (s1 : c.seed < 18446744073709551616) (w : World) :
    Calls Try.prog 86 #[.agg #[.int .i64 c.ci, .int .i64 c.ch, .int .i64 c.co, .int .u64 c.seed, .int .i64 c.batch, .int .i64 c.steps, .int .i64 c.rate, .int .i64 c.decay, .int .i64 c.how, .int .i64 c.keep, .int .i64 c.clip]] w (fun e w' => ∃ A1 k1 A2 k2, e = .returned (.tuple #[.agg #[.slice A1 c.N k1, .slice A2 c.N k2], .int .i64 0]) ∧ w'.ownsRow w.heap.size 3 1 (.slice A1 c.N k1) c.N ((start c).1.map (.int .i64)) ∧
      w'.ownsRow w.heap.size 3 1 (.slice A2 c.N k2) c.N ((start c).2.map (.int .i64)) ∧ Below w.heap.size w w') := by
  refine (trn_Start c w hE s0 s1).mono ?_
  rintro e w' ⟨A1, k1, A2, k2, rfl, o1, o2, hb⟩
  rw [startW_length] at o1 ⊢
  rw [zerosL_length] at o2 ⊢
  exact ⟨A1, k1, A2, k2, rfl, o1, o2, hb⟩
theorem ListV.ints {m : Option Nat} {w : World} {o : Option Nat} {A : Option Addr} {n c : Nat} {xs : List Int} (h : ListV m w o (.slice A n c) xs) : Ints .i64 w A n xs ∧ n ≤ c := by
  obtain ⟨A', c', e, hi, h1, _⟩ := h
  injection e with e1 e2 e3
  subst e1; subst e2; subst e3
  exact ⟨hi, h1⟩
theorem states_len1 (c : Cfg) (ds : Data) (k : Nat) : (states c ds k).1.length = c.N := (fits_iff.1 (fits_states c ds k)).1
theorem states_len2 (c : Cfg) (ds : Data) (k : Nat) : (states c ds k).2.length = c.N := (fits_iff.1 (fits_states c ds k)).2.1

set_option maxRecDepth 100000 in
set_option maxHeartbeats 2000000 in
theorem trn_Run_crs (c : Cfg) (ds : Data) (D : Option Addr) (n dc : Nat) (w : World) (hd : Duos w D n ds) (hn : n ≤ 9223372036854775806) (N : Int) (hC : crs c ds ≠ 0) :
    Calls Try.prog 35 #[.agg #[.int .i64 c.ci, .int .i64 c.ch, .int .i64 c.co, .int .u64 c.seed, .int .i64 c.batch, .int .i64 c.steps, .int .i64 c.rate, .int .i64 c.decay, .int .i64 c.how, .int .i64 c.keep, .int .i64 c.clip], .slice D n dc, .int .i64 N] w fun e w' => e = .returned (.tuple #[.slice none 0 0, .int .i64 (crs c ds)]) ∧ Below w.heap.size w w' := by
  have HCK := Lib.hid (fun W (h : Below w.heap.size w W) => trn_Check c D n dc ds W (hd.below h) hn)
  have t : (crs c ds != 0) = true := by rw [bne_iff_ne]; exact hC
  clear hC
  go_enter Try.func35, Try.ntmps35
  go_wp2_with fail
  refine (HCK.out _ ((Below.refl _ _).alloc (Nat.le_refl _) _)).mono ?_
  rintro e x1 ⟨rfl, hb1⟩
  have hbw : Below w.heap.size w x1 := Below.trans (B := w.heap.size) (by repeat (first | exact Below.refl _ _ | assumption | refine bel_drewN ?_ _ | refine Below.drew ?_ | (refine Below.alloc ?_ (by simp <;> omega) _) | (refine Below.setCell ?_ (by simp <;> omega) _))) (hb1.mono (by simp))
  go_wp2
  go_ret2
  exact ⟨rfl, hbw⟩
set_option maxRecDepth 100000 in
set_option maxHeartbeats 2000000 in
theorem trn_Run_arg (c : Cfg) (ds : Data) (D : Option Addr) (n dc : Nat) (w : World) (hd : Duos w D n ds) (hn : n ≤ 9223372036854775806) (N : Int) (hC : crs c ds = 0) (hN : ¬ (0 ≤ N ∧ N ≤ c.steps)) :
    Calls Try.prog 35 #[.agg #[.int .i64 c.ci, .int .i64 c.ch, .int .i64 c.co, .int .u64 c.seed, .int .i64 c.batch, .int .i64 c.steps, .int .i64 c.rate, .int .i64 c.decay, .int .i64 c.how, .int .i64 c.keep, .int .i64 c.clip], .slice D n dc, .int .i64 N] w fun e w' => e = .returned (.tuple #[.slice none 0 0, .int .i64 1]) ∧ Below w.heap.size w w' := by
  have HCK := Lib.hid (fun W (h : Below w.heap.size w W) => trn_Check c D n dc ds W (hd.below h) hn)
  have HB := Blk.made w 54 #[.int .i64 c.ci, .int .i64 c.ch, .int .i64 c.co, .int .u64 c.seed, .int .i64 c.batch, .int .i64 c.steps, .int .i64 c.rate, .int .i64 c.decay, .int .i64 c.how, .int .i64 c.keep, .int .i64 c.clip]
  have C0 := Lib.hid hC
  have hd2 : N < 0 ∨ (¬ N < 0 ∧ c.steps < N) := by omega
  clear hC hN
  go_enter Try.func35, Try.ntmps35
  go_wp2_with fail
  refine (HCK.out _ ((Below.refl _ _).alloc (Nat.le_refl _) _)).mono ?_
  rintro e x1 ⟨rfl, hb1⟩
  rw [C0.out]
  have hbw : Below w.heap.size w x1 := Below.trans (B := w.heap.size) (by repeat (first | exact Below.refl _ _ | assumption | refine bel_drewN ?_ _ | refine Below.drew ?_ | (refine Below.alloc ?_ (by simp <;> omega) _) | (refine Below.setCell ?_ (by simp <;> omega) _))) (hb1.mono (by simp))
  obtain ⟨d0, d1, d2, d3, d4, d5, d6, d7, d8, d9, da⟩ := (HB.below hb1 (by simp)).cfg
  rcases hd2 with h | ⟨h, h2⟩
  · go_wp2
    go_ret2
    exact ⟨rfl, hbw⟩
  · go_wp2
    go_ret2
    exact ⟨rfl, hbw⟩

end Go.Proofs.Ythckpmgehhkacaa
