/- The rate: package optim, and the document's own text: walks, each function once. -/
import Derived.Test.YtejkkbjepgghlaaOptW
import Derived.IntWalk
namespace Go.Proofs.Ytejkkbjepgghlaa
open Go.RowKit Pl

theorem Blk.cfg {w : World} {g : Nat} {t : TypeId} {a0 a1 a2 a3 a4 a5 a6 a7 a8 a9 aa : Value} (h : Blk w g t #[a0, a1, a2, a3, a4, a5, a6, a7, a8, a9, aa]) :
    w.cell? ⟨g, 0, none⟩ = some a0 ∧ w.cell? ⟨g, 1, none⟩ = some a1 ∧ w.cell? ⟨g, 2, none⟩ = some a2 ∧ w.cell? ⟨g, 3, none⟩ = some a3 ∧ w.cell? ⟨g, 4, none⟩ = some a4 ∧ w.cell? ⟨g, 5, none⟩ = some a5 ∧ w.cell? ⟨g, 6, none⟩ = some a6 ∧ w.cell? ⟨g, 7, none⟩ = some a7 ∧ w.cell? ⟨g, 8, none⟩ = some a8 ∧ w.cell? ⟨g, 9, none⟩ = some a9 ∧ w.cell? ⟨g, 10, none⟩ = some aa :=
  ⟨h.cell 0, h.cell 1, h.cell 2, h.cell 3, h.cell 4, h.cell 5, h.cell 6, h.cell 7, h.cell 8, h.cell 9, h.cell 10⟩
theorem forall_and11 {α : Sort _} {p0 p1 p2 p3 p4 p5 p6 p7 p8 p9 pa : α → Prop} (h : ∀ o, p0 o ∧ p1 o ∧ p2 o ∧ p3 o ∧ p4 o ∧ p5 o ∧ p6 o ∧ p7 o ∧ p8 o ∧ p9 o ∧ pa o) : (∀ o, p0 o) ∧ (∀ o, p1 o) ∧ (∀ o, p2 o) ∧ (∀ o, p3 o) ∧ (∀ o, p4 o) ∧ (∀ o, p5 o) ∧ (∀ o, p6 o) ∧ (∀ o, p7 o) ∧ (∀ o, p8 o) ∧ (∀ o, p9 o) ∧ (∀ o, pa o) :=
  ⟨fun o => (h o).1, fun o => (h o).2.1, fun o => (h o).2.2.1, fun o => (h o).2.2.2.1, fun o => (h o).2.2.2.2.1, fun o => (h o).2.2.2.2.2.1, fun o => (h o).2.2.2.2.2.2.1, fun o => (h o).2.2.2.2.2.2.2.1, fun o => (h o).2.2.2.2.2.2.2.2.1, fun o => (h o).2.2.2.2.2.2.2.2.2.1, fun o => (h o).2.2.2.2.2.2.2.2.2.2⟩

def rateE (x st step : Int) : Int := if x ≠ 0 then x else if inB step 0 (st - 1) then 0 else 1
def rateO (x st ra de step : Int) : Int := if rateE x st step = 0 then rateP de ra st step else 0
theorem rateE_0 {x st step : Int} (h : x ≠ 0) : rateE x st step = x := if_pos h
theorem rateE_1 {x st step : Int} (h : x = 0) (h' : inB step 0 (st - 1) = false) : rateE x st step = 1 := by unfold rateE; rw [if_neg (by simp [h]), h']; rfl
theorem rateE_2 {x st step : Int} (h : x = 0) (h' : inB step 0 (st - 1) = true) : rateE x st step = 0 := by unfold rateE; rw [if_neg (by simp [h]), h']; rfl
theorem clamp_pos {n : Int} (h : 1 ≤ n) : clamp n ≠ 0 := by unfold clamp; split <;> (try split) <;> omega

set_option maxRecDepth 100000 in
set_option maxHeartbeats 2000000 in
theorem opt_Rate (ci ch co se ba st ra de hw ke cl : Int) (step : Int) (w : World) (hs : -9223372036854775808 ≤ step ∧ step ≤ 9223372036854775807) :
    Calls Try.prog 20 #[.agg #[.int .i64 ci, .int .i64 ch, .int .i64 co, .int .u64 se, .int .i64 ba, .int .i64 st, .int .i64 ra, .int .i64 de, .int .i64 hw, .int .i64 ke, .int .i64 cl], .int .i64 step] w fun e w' => e = .returned (.tuple #[.int .i64 (rateO (cfgE ci ch co ba st ra de hw ke cl) st ra de step), .int .i64 (rateE (cfgE ci ch co ba st ra de hw ke cl) st step)]) ∧ Below w.heap.size w w' := by
  have HB := Blk.made w 24 #[.int .i64 ci, .int .i64 ch, .int .i64 co, .int .u64 se, .int .i64 ba, .int .i64 st, .int .i64 ra, .int .i64 de, .int .i64 hw, .int .i64 ke, .int .i64 cl]
  by_cases hE : cfgE ci ch co ba st ra de hw ke cl = 0
  · obtain ⟨_, _, _, _, ⟨s1, s2⟩, ⟨ra1, ra2⟩, ⟨de1, de2⟩, _, _, _⟩ := cfgE_ok hE
    have HE := Lib.hid hE
    rw [hE]
    clear hE
    cases hI : inB step 0 (st - 1)
    · have F1 := Lib.hid (rateE_1 (x := 0) rfl hI)
      have F2 := Lib.hid (show rateO 0 st ra de step = 0 from if_neg (by rw [F1.out]; decide))
      rw [F1.out, F2.out]
      go_enter Try.func20, Try.ntmps20
      go_wp2_with fail
      refine (opt_Check ci ch co se ba st ra de hw ke cl _).mono ?_
      rintro e x1 ⟨rfl, hb1⟩
      rw [HE.out]
      obtain ⟨c0, c1, c2, c3, c4, c5, c6, c7, c8, c9, ca⟩ := (HB.below hb1 (by simp)).cfg
      have hbw : Below w.heap.size w x1 := Below.trans (B := w.heap.size) (by repeat (first | exact Below.refl _ _ | assumption | refine bel_drewN ?_ _ | refine Below.drew ?_ | (refine Below.alloc ?_ (by simp <;> omega) _) | (refine Below.setCell ?_ (by simp <;> omega) _))) (hb1.mono (by simp))
      go_wp2_with (go_at_call 78; refine (opt_within _ _ _ _).mono ?_; rintro e w' ⟨rfl, rfl⟩)
      go_ret2
      exact ⟨rfl, hbw⟩
    · have F1 := Lib.hid (rateE_2 (x := 0) rfl hI)
      have F2 := Lib.hid (show rateO 0 st ra de step = rateP de ra st step from if_pos F1.out)
      rw [F1.out, F2.out]
      obtain ⟨i1, i2⟩ := inB_iff.1 hI
      by_cases hd : de = 0
      · have t : (de == 0) = true := by rw [beq_iff_eq]; exact hd
        rw [show rateP de ra st step = ra from if_pos hd]
        clear hd
        go_enter Try.func20, Try.ntmps20
        go_wp2_with fail
        refine (opt_Check ci ch co se ba st ra de hw ke cl _).mono ?_
        rintro e x1 ⟨rfl, hb1⟩
        rw [HE.out]
        obtain ⟨c0, c1, c2, c3, c4, c5, c6, c7, c8, c9, ca⟩ := (HB.below hb1 (by simp)).cfg
        have hbw : Below w.heap.size w x1 := Below.trans (B := w.heap.size) (by repeat (first | exact Below.refl _ _ | assumption | refine bel_drewN ?_ _ | refine Below.drew ?_ | (refine Below.alloc ?_ (by simp <;> omega) _) | (refine Below.setCell ?_ (by simp <;> omega) _))) (hb1.mono (by simp))
        go_wp2_with (go_at_call 78; refine (opt_within _ _ _ _).mono ?_; rintro e w' ⟨rfl, rfl⟩)
        go_ret2
        exact ⟨rfl, hbw⟩
      · have t : (de == 0) = false := beq_eq_false_iff_ne.2 hd
        rw [show rateP de ra st step = mulF ra (divF (st - step) st) from if_neg hd]
        have HD := Lib.hid (fun W => fix_Div_ok (st - step) st (clamp_pos s1) W)
        have HM := Lib.hid (fun W => fix_Mul ra (divF (st - step) st) W)
        clear hd
        go_enter Try.func20, Try.ntmps20
        go_wp2_with fail
        refine (opt_Check ci ch co se ba st ra de hw ke cl _).mono ?_
        rintro e x1 ⟨rfl, hb1⟩
        rw [HE.out]
        obtain ⟨c0, c1, c2, c3, c4, c5, c6, c7, c8, c9, ca⟩ := (HB.below hb1 (by simp)).cfg
        have hbw : Below w.heap.size w x1 := Below.trans (B := w.heap.size) (by repeat (first | exact Below.refl _ _ | assumption | refine bel_drewN ?_ _ | refine Below.drew ?_ | (refine Below.alloc ?_ (by simp <;> omega) _) | (refine Below.setCell ?_ (by simp <;> omega) _))) (hb1.mono (by simp))
        go_wp2_with (go_at_call 78; refine (opt_within _ _ _ _).mono ?_; rintro e w' ⟨rfl, rfl⟩)
        refine (HD.out _).mono ?_
        rintro e w2 ⟨rfl, k, rfl⟩
        go_wp2_with (go_at_call 80; refine (HM.out _).mono ?_; rintro e w3 ⟨rfl, k3, rfl⟩)
        go_ret2
        exact ⟨rfl, bel_drewN hbw _⟩
  · have t : (cfgE ci ch co ba st ra de hw ke cl != 0) = true := by rw [bne_iff_ne]; exact hE
    rw [show rateO (cfgE ci ch co ba st ra de hw ke cl) st ra de step = 0 from if_neg (by rw [rateE_0 hE]; exact hE), rateE_0 hE]
    clear hE
    go_enter Try.func20, Try.ntmps20
    go_wp2_with fail
    refine (opt_Check ci ch co se ba st ra de hw ke cl _).mono ?_
    rintro e x1 ⟨rfl, hb1⟩
    have hbw : Below w.heap.size w x1 := Below.trans (B := w.heap.size) (by repeat (first | exact Below.refl _ _ | assumption | refine bel_drewN ?_ _ | refine Below.drew ?_ | (refine Below.alloc ?_ (by simp <;> omega) _) | (refine Below.setCell ?_ (by simp <;> omega) _))) (hb1.mono (by simp))
    go_wp2
    go_ret2
    exact ⟨rfl, hbw⟩

set_option maxRecDepth 100000 in
set_option maxHeartbeats 2000000 in
theorem ref_Rate (ci ch co se ba st ra de hw ke cl : Int) (step : Int) (w : World) (hE : cfgE ci ch co ba st ra de hw ke cl = 0) (h0 : 0 ≤ step) (h1 : step ≤ st - 1) :
    Calls Try.prog 16 #[.agg #[.int .i64 ci, .int .i64 ch, .int .i64 co, .int .u64 se, .int .i64 ba, .int .i64 st, .int .i64 ra, .int .i64 de, .int .i64 hw, .int .i64 ke, .int .i64 cl], .int .i64 step] w fun e w' => e = .returned (.int .i64 (rateP de ra st step)) ∧ Below w.heap.size w w' := by
  obtain ⟨_, _, _, _, ⟨s1, s2⟩, ⟨ra1, ra2⟩, ⟨de1, de2⟩, _, _, _⟩ := cfgE_ok hE
  clear hE
  by_cases hd : de = 0
  · have t : (de == 1) = false := beq_eq_false_iff_ne.2 (by omega)
    rw [show rateP de ra st step = ra from if_pos hd]
    clear hd
    go_enter Try.func16, Try.ntmps16
    go_wp2
    go_ret
    exact ⟨rfl, (by repeat (first | exact Below.refl _ _ | assumption | refine bel_drewN ?_ _ | refine Below.drew ?_ | (refine Below.alloc ?_ (by simp <;> omega) _) | (refine Below.setCell ?_ (by simp <;> omega) _)))⟩
  · have t : (de == 1) = true := by rw [beq_iff_eq]; omega
    rw [show rateP de ra st step = mulF ra (divF (st - step) st) from if_neg hd]
    have HD := Lib.hid (fun W => ref_Div (st - step) st (clamp_pos s1) W)
    have HM := Lib.hid (fun W => ref_Mul ra (divF (st - step) st) W)
    have v1 := IntWalk.i64_in (st - step) (by omega)
    clear hd
    go_enter Try.func16, Try.ntmps16
    go_wp2
    obtain ⟨x, hX⟩ : ∃ x, x = w.alloc (.cells #[.int .i64 ci, .int .i64 ch, .int .i64 co, .int .u64 se, .int .i64 ba, .int .i64 st, .int .i64 ra, .int .i64 de, .int .i64 hw, .int .i64 ke, .int .i64 cl] 24) := ⟨_, rfl⟩
    rw [← hX]
    obtain ⟨c0, c1, c2, c3, c4, c5, c6, c7, c8, c9, ca⟩ : _ := (show Blk x w.heap.size 24 #[.int .i64 ci, .int .i64 ch, .int .i64 co, .int .u64 se, .int .i64 ba, .int .i64 st, .int .i64 ra, .int .i64 de, .int .i64 hw, .int .i64 ke, .int .i64 cl] by rw [hX]; exact Blk.made w _ _).cfg
    have hbx : Below w.heap.size w x := by rw [hX]; exact (Below.refl _ _).alloc (Nat.le_refl _) _
    clear hX
    go_quiet ((first | (go_at_call 72; exact Calls.quiet_of (HD.out _)) | (go_at_call 71; exact Calls.quiet_of (HM.out _))))
    go_wp2
    go_ret
    exact ⟨rfl, bel_drewN hbx _⟩
end Go.Proofs.Ytejkkbjepgghlaa
