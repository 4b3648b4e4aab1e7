/- What is wrong with a config, and the rate: package optim's calls, and the document's own text: walks, each function once. -/
import Derived.Test.YtgodgedhddngeaaGreatDoorPupBox
import Derived.Deep.DeepCutAuto
import Derived.Deep.CutBlock
set_option maxRecDepth 100000
set_option maxHeartbeats 16000000
namespace Go.Proofs.YtgodgedhddngeaaGreatDoor
open Go.RowKit Pl
def cfgB (ci ch co ba st ra de hw ke cl : Int) : Bool :=
 inB ci 1 4 && inB ch 1 4 && inB co 1 4 && inB ba 1 8 && inB st 1 40 && inB ra 0 2147483647 && inB de 0 1 && inB hw 0 1 && inB ke 0 65536 && inB cl 0 2147483647
def cfgE (ci ch co ba st ra de hw ke cl : Int) : Int := if cfgB ci ch co ba st ra de hw ke cl then 0 else 1
theorem inB_iff {n lo hi : Int} : inB n lo hi = true ↔ lo ≤ n ∧ n ≤ hi := by unfold inB; rw [decide_eq_true_eq]
theorem cfgE_ok {ci ch co ba st ra de hw ke cl : Int} (h : cfgE ci ch co ba st ra de hw ke cl = 0) : (1 ≤ ci ∧ ci ≤ 4) ∧ (1 ≤ ch ∧ ch ≤ 4) ∧ (1 ≤ co ∧ co ≤ 4) ∧ (1 ≤ ba ∧ ba ≤ 8) ∧ (1 ≤ st ∧ st ≤ 40) ∧ (0 ≤ ra ∧ ra ≤ 2147483647) ∧ (0 ≤ de ∧ de ≤ 1) ∧ (0 ≤ hw ∧ hw ≤ 1) ∧ (0 ≤ ke ∧ ke ≤ 65536) ∧ (0 ≤ cl ∧ cl ≤ 2147483647) := by
 have hb : cfgB ci ch co ba st ra de hw ke cl = true := by
  cases hc : cfgB ci ch co ba st ra de hw ke cl
  ·unfold cfgE at h; rw [hc] at h; simp at h
  ·rfl
 unfold cfgB at hb
 simp only [Bool.and_eq_true, inB_iff] at hb
 obtain ⟨⟨⟨⟨⟨⟨⟨⟨⟨a, b⟩, c⟩, d⟩, e⟩, f⟩, g⟩, i⟩, j⟩, k⟩ := hb
 exact ⟨a, b, c, d, e, f, g, i, j, k⟩
theorem opt_within (n lo hi : Int) (w : World) : Calls Tryz.prog 72 #[.int .i64 n, .int .i64 lo, .int .i64 hi] w fun e w' => e = .returned (.bool (inB n lo hi)) ∧ w = w' := by
 by_cases h : lo ≤ n
 ·have h1 : decide (lo ≤ n) = true := decide_eq_true h
  go_enter Tryz.func72, Tryz.ntmps72
  go_wp2
  go_ret
  exact ⟨ret_bool (by simp [inB, h]), rfl⟩
 ·have h1 : decide (lo ≤ n) = false := decide_eq_false h
  go_enter Tryz.func72, Tryz.ntmps72
  go_wp2
  go_ret
  exact ⟨ret_bool (inB_no (by omega)).symm, rfl⟩
theorem opt_Check (ci ch co se ba st ra de hw ke cl : Int) (w : World) : Calls Tryz.prog 46 #[.agg #[.int .i64 ci, .int .i64 ch, .int .i64 co, .int .u64 se, .int .i64 ba, .int .i64 st, .int .i64 ra, .int .i64 de, .int .i64 hw, .int .i64 ke, .int .i64 cl]] w fun e w' => e = .returned (.int .i64 (cfgE ci ch co ba st ra de hw ke cl)) ∧ Below w.heap.size w w' := by
 go_enter Tryz.func46, Tryz.ntmps46
 go_wp2
 refine wp_loop_rounds 4 ?_
 cases b0 : inB ci 1 4
 ·rw [rounds_succ]
  go_wp2_with (go_at_call 72; refine (opt_within _ _ _ _).mono ?_; rintro e w' ⟨rfl, rfl⟩)
  go_ret
  exact ⟨ret_int (by simp [cfgE, cfgB, b0]), (by repeat (first | exact Below.refl _ _ | assumption | refine bel_drewN ?_ _ | refine Below.drew ?_ | (refine Below.alloc ?_ (by simp <;> omega) _) | (refine Below.setCell ?_ (by simp <;> omega) _)))⟩
 cases b1 : inB ch 1 4
 ·rw [rounds_succ]
  go_wp2_with (go_at_call 72; refine (opt_within _ _ _ _).mono ?_; rintro e w' ⟨rfl, rfl⟩)
  rw [rounds_succ]
  go_wp2_with (go_at_call 72; refine (opt_within _ _ _ _).mono ?_; rintro e w' ⟨rfl, rfl⟩)
  go_ret
  exact ⟨ret_int (by simp [cfgE, cfgB, b1]), (by repeat (first | exact Below.refl _ _ | assumption | refine bel_drewN ?_ _ | refine Below.drew ?_ | (refine Below.alloc ?_ (by simp <;> omega) _) | (refine Below.setCell ?_ (by simp <;> omega) _)))⟩
 cases b2 : inB co 1 4
 ·rw [rounds_succ]
  go_wp2_with (go_at_call 72; refine (opt_within _ _ _ _).mono ?_; rintro e w' ⟨rfl, rfl⟩)
  rw [rounds_succ]
  go_wp2_with (go_at_call 72; refine (opt_within _ _ _ _).mono ?_; rintro e w' ⟨rfl, rfl⟩)
  rw [rounds_succ]
  go_wp2_with (go_at_call 72; refine (opt_within _ _ _ _).mono ?_; rintro e w' ⟨rfl, rfl⟩)
  go_ret
  exact ⟨ret_int (by simp [cfgE, cfgB, b2]), (by repeat (first | exact Below.refl _ _ | assumption | refine bel_drewN ?_ _ | refine Below.drew ?_ | (refine Below.alloc ?_ (by simp <;> omega) _) | (refine Below.setCell ?_ (by simp <;> omega) _)))⟩
 rw [rounds_succ]
 go_wp2_with (go_at_call 72; refine (opt_within _ _ _ _).mono ?_; rintro e w' ⟨rfl, rfl⟩)
 rw [rounds_succ]
 go_wp2_with (go_at_call 72; refine (opt_within _ _ _ _).mono ?_; rintro e w' ⟨rfl, rfl⟩)
 rw [rounds_succ]
 go_wp2_with (go_at_call 72; refine (opt_within _ _ _ _).mono ?_; rintro e w' ⟨rfl, rfl⟩)
 rw [rounds_succ]
 go_wp2_with (go_at_call 72; refine (opt_within _ _ _ _).mono ?_; rintro e w' ⟨rfl, rfl⟩)
 all_goals go_ret
 all_goals exact ⟨ret_int (by simp_all [cfgE, cfgB]), (by repeat (first | exact Below.refl _ _ | assumption | refine bel_drewN ?_ _ | refine Below.drew ?_ | (refine Below.alloc ?_ (by simp <;> omega) _) | (refine Below.setCell ?_ (by simp <;> omega) _)))⟩
theorem ref_Config (ci ch co se ba st ra de hw ke cl : Int) (w : World) : Calls Tryz.prog 37 #[.agg #[.int .i64 ci, .int .i64 ch, .int .i64 co, .int .u64 se, .int .i64 ba, .int .i64 st, .int .i64 ra, .int .i64 de, .int .i64 hw, .int .i64 ke, .int .i64 cl]] w fun e w' => e = .returned (.int .i64 (cfgE ci ch co ba st ra de hw ke cl)) ∧ Below w.heap.size w w' := by
 go_enter Tryz.func37, Tryz.ntmps37
 go_wp2_with (go_at_call 58; refine (ref_In _ _ _ _).mono ?_; rintro e w' ⟨rfl, rfl⟩)
 all_goals go_ret
 all_goals exact ⟨ret_int (by simp_all [cfgE, cfgB]), (by repeat (first | exact Below.refl _ _ | assumption | refine bel_drewN ?_ _ | refine Below.drew ?_ | (refine Below.alloc ?_ (by simp <;> omega) _) | (refine Below.setCell ?_ (by simp <;> omega) _)))⟩
theorem Blk.cfg {w : World} {g : Nat} {t : TypeId} {a0 a1 a2 a3 a4 a5 a6 a7 a8 a9 aa : Value} (h : Blk w g t #[a0, a1, a2, a3, a4, a5, a6, a7, a8, a9, aa]) :
  w.cell? ⟨g, 0, none⟩ = some a0 ∧ w.cell? ⟨g, 1, none⟩ = some a1 ∧ w.cell? ⟨g, 2, none⟩ = some a2 ∧ w.cell? ⟨g, 3, none⟩ = some a3 ∧ w.cell? ⟨g, 4, none⟩ = some a4 ∧ w.cell? ⟨g, 5, none⟩ = some a5 ∧ w.cell? ⟨g, 6, none⟩ = some a6 ∧ w.cell? ⟨g, 7, none⟩ = some a7 ∧ w.cell? ⟨g, 8, none⟩ = some a8 ∧ w.cell? ⟨g, 9, none⟩ = some a9 ∧ w.cell? ⟨g, 10, none⟩ = some aa :=
 ⟨h.cell 0, h.cell 1, h.cell 2, h.cell 3, h.cell 4, h.cell 5, h.cell 6, h.cell 7, h.cell 8, h.cell 9, h.cell 10⟩
def rateE (x st step : Int) : Int := if x ≠ 0 then x else if inB step 0 (st - 1) then 0 else 1
def rateO (x st ra de step : Int) : Int := if rateE x st step = 0 then rateP de ra st step else 0
theorem rateE_0 {x st step : Int} (h : x ≠ 0) : rateE x st step = x := if_pos h
theorem rateE_1 {x st step : Int} (h : x = 0) (h' : inB step 0 (st - 1) = false) : rateE x st step = 1 := by unfold rateE; rw [if_neg (by simp [h]), h']; rfl
theorem rateE_2 {x st step : Int} (h : x = 0) (h' : inB step 0 (st - 1) = true) : rateE x st step = 0 := by unfold rateE; rw [if_neg (by simp [h]), h']; rfl
theorem clamp_pos {n : Int} (h : 1 ≤ n) : clamp n ≠ 0 := by unfold clamp; split <;> (try split) <;> omega
theorem opt_Rate (ci ch co se ba st ra de hw ke cl : Int) (step : Int) (w : World) (hs : -9223372036854775808 ≤ step ∧ step ≤ 9223372036854775807) :
  Calls Tryz.prog 129 #[.agg #[.int .i64 ci, .int .i64 ch, .int .i64 co, .int .u64 se, .int .i64 ba, .int .i64 st, .int .i64 ra, .int .i64 de, .int .i64 hw, .int .i64 ke, .int .i64 cl], .int .i64 step] w fun e w' => e = .returned (.tuple #[.int .i64 (rateO (cfgE ci ch co ba st ra de hw ke cl) st ra de step), .int .i64 (rateE (cfgE ci ch co ba st ra de hw ke cl) st step)]) ∧ Below w.heap.size w w' := by
 have HB := Blk.made w 29 #[.int .i64 ci, .int .i64 ch, .int .i64 co, .int .u64 se, .int .i64 ba, .int .i64 st, .int .i64 ra, .int .i64 de, .int .i64 hw, .int .i64 ke, .int .i64 cl]
 by_cases hE : cfgE ci ch co ba st ra de hw ke cl = 0
 ·obtain ⟨_, _, _, _, ⟨s1, s2⟩, ⟨ra1, ra2⟩, ⟨de1, de2⟩, _, _, _⟩ := cfgE_ok hE
  have HE := Lib.hid hE
  rw [hE]
  clear hE
  cases hI : inB step 0 (st - 1)
  ·have F1 := Lib.hid (rateE_1 (x := 0) rfl hI)
   have F2 := Lib.hid (show rateO 0 st ra de step = 0 from if_neg (by rw [F1.out]; decide))
   rw [F1.out, F2.out]
   go_enter Tryz.func129, Tryz.ntmps129
   go_wp2_with fail
   refine (opt_Check ci ch co se ba st ra de hw ke cl _).mono ?_
   rintro e x1 ⟨rfl, hb1⟩
   rw [HE.out]
   obtain ⟨c0, c1, c2, c3, c4, c5, c6, c7, c8, c9, ca⟩ := (HB.below hb1 (by simp)).cfg
   have hbw : Below w.heap.size w x1 := Below.trans (B := w.heap.size) (by repeat (first | exact Below.refl _ _ | assumption | refine bel_drewN ?_ _ | refine Below.drew ?_ | (refine Below.alloc ?_ (by simp <;> omega) _) | (refine Below.setCell ?_ (by simp <;> omega) _))) (hb1.mono (by simp))
   go_wp2_with (go_at_call 72; refine (opt_within _ _ _ _).mono ?_; rintro e w' ⟨rfl, rfl⟩)
   go_ret2
   exact ⟨rfl, hbw⟩
  ·have F1 := Lib.hid (rateE_2 (x := 0) rfl hI)
   have F2 := Lib.hid (show rateO 0 st ra de step = rateP de ra st step from if_pos F1.out)
   rw [F1.out, F2.out]
   obtain ⟨i1, i2⟩ := inB_iff.1 hI
   by_cases hd : de = 0
   ·have t : (de == 0) = true := by rw [beq_iff_eq]; exact hd
    rw [show rateP de ra st step = ra from if_pos hd]
    clear hd
    go_enter Tryz.func129, Tryz.ntmps129
    go_wp2_with fail
    refine (opt_Check ci ch co se ba st ra de hw ke cl _).mono ?_
    rintro e x1 ⟨rfl, hb1⟩
    rw [HE.out]
    obtain ⟨c0, c1, c2, c3, c4, c5, c6, c7, c8, c9, ca⟩ := (HB.below hb1 (by simp)).cfg
    have hbw : Below w.heap.size w x1 := Below.trans (B := w.heap.size) (by repeat (first | exact Below.refl _ _ | assumption | refine bel_drewN ?_ _ | refine Below.drew ?_ | (refine Below.alloc ?_ (by simp <;> omega) _) | (refine Below.setCell ?_ (by simp <;> omega) _))) (hb1.mono (by simp))
    go_wp2_with (go_at_call 72; refine (opt_within _ _ _ _).mono ?_; rintro e w' ⟨rfl, rfl⟩)
    go_ret2
    exact ⟨rfl, hbw⟩
   ·have t : (de == 0) = false := beq_eq_false_iff_ne.2 hd
    rw [show rateP de ra st step = mulF ra (divF (st - step) st) from if_neg hd]
    have HD := Lib.hid (fun W => fix_Div_ok (st - step) st (clamp_pos s1) W)
    have HM := Lib.hid (fun W => fix_Mul ra (divF (st - step) st) W)
    clear hd
    go_enter Tryz.func129, Tryz.ntmps129
    go_wp2_with fail
    refine (opt_Check ci ch co se ba st ra de hw ke cl _).mono ?_
    rintro e x1 ⟨rfl, hb1⟩
    rw [HE.out]
    obtain ⟨c0, c1, c2, c3, c4, c5, c6, c7, c8, c9, ca⟩ := (HB.below hb1 (by simp)).cfg
    have hbw : Below w.heap.size w x1 := Below.trans (B := w.heap.size) (by repeat (first | exact Below.refl _ _ | assumption | refine bel_drewN ?_ _ | refine Below.drew ?_ | (refine Below.alloc ?_ (by simp <;> omega) _) | (refine Below.setCell ?_ (by simp <;> omega) _))) (hb1.mono (by simp))
    go_wp2_with (go_at_call 72; refine (opt_within _ _ _ _).mono ?_; rintro e w' ⟨rfl, rfl⟩)
    refine (HD.out _).mono ?_
    rintro e w2 ⟨rfl, k, rfl⟩
    go_wp2_with (go_at_call 171; refine (HM.out _).mono ?_; rintro e w3 ⟨rfl, k3, rfl⟩)
    go_ret2
    exact ⟨rfl, bel_drewN hbw _⟩
 ·have t : (cfgE ci ch co ba st ra de hw ke cl != 0) = true := by rw [bne_iff_ne]; exact hE
  rw [show rateO (cfgE ci ch co ba st ra de hw ke cl) st ra de step = 0 from if_neg (by rw [rateE_0 hE]; exact hE), rateE_0 hE]
  clear hE
  go_enter Tryz.func129, Tryz.ntmps129
  go_wp2_with fail
  refine (opt_Check ci ch co se ba st ra de hw ke cl _).mono ?_
  rintro e x1 ⟨rfl, hb1⟩
  have hbw : Below w.heap.size w x1 := Below.trans (B := w.heap.size) (by repeat (first | exact Below.refl _ _ | assumption | refine bel_drewN ?_ _ | refine Below.drew ?_ | (refine Below.alloc ?_ (by simp <;> omega) _) | (refine Below.setCell ?_ (by simp <;> omega) _))) (hb1.mono (by simp))
  go_wp2
  go_ret2
  exact ⟨rfl, hbw⟩
theorem ref_Rate (ci ch co se ba st ra de hw ke cl : Int) (step : Int) (w : World) (hE : cfgE ci ch co ba st ra de hw ke cl = 0) (h0 : 0 ≤ step) (h1 : step ≤ st - 1) :
  Calls Tryz.prog 149 #[.agg #[.int .i64 ci, .int .i64 ch, .int .i64 co, .int .u64 se, .int .i64 ba, .int .i64 st, .int .i64 ra, .int .i64 de, .int .i64 hw, .int .i64 ke, .int .i64 cl], .int .i64 step] w fun e w' => e = .returned (.int .i64 (rateP de ra st step)) ∧ Below w.heap.size w w' := by
 obtain ⟨_, _, _, _, ⟨s1, s2⟩, ⟨ra1, ra2⟩, ⟨de1, de2⟩, _, _, _⟩ := cfgE_ok hE
 clear hE
 by_cases hd : de = 0
 ·have t : (de == 1) = false := beq_eq_false_iff_ne.2 (by omega)
  rw [show rateP de ra st step = ra from if_pos hd]
  clear hd
  go_enter Tryz.func149, Tryz.ntmps149
  go_wp2
  go_ret
  exact ⟨rfl, (by repeat (first | exact Below.refl _ _ | assumption | refine bel_drewN ?_ _ | refine Below.drew ?_ | (refine Below.alloc ?_ (by simp <;> omega) _) | (refine Below.setCell ?_ (by simp <;> omega) _)))⟩
 ·have t : (de == 1) = true := by rw [beq_iff_eq]; omega
  rw [show rateP de ra st step = mulF ra (divF (st - step) st) from if_neg hd]
  have HD := Lib.hid (fun W => ref_Div (st - step) st (clamp_pos s1) W)
  have HM := Lib.hid (fun W => ref_Mul ra (divF (st - step) st) W)
  have v1 := IntWalk.i64_in (st - step) (by omega)
  clear hd
  go_enter Tryz.func149, Tryz.ntmps149
  go_wp2
  obtain ⟨x, hX⟩ : ∃ x, x = w.alloc (.cells #[.int .i64 ci, .int .i64 ch, .int .i64 co, .int .u64 se, .int .i64 ba, .int .i64 st, .int .i64 ra, .int .i64 de, .int .i64 hw, .int .i64 ke, .int .i64 cl] 29) := ⟨_, rfl⟩
  rw [← hX]
  obtain ⟨c0, c1, c2, c3, c4, c5, c6, c7, c8, c9, ca⟩ : _ := (show Blk x w.heap.size 29 #[.int .i64 ci, .int .i64 ch, .int .i64 co, .int .u64 se, .int .i64 ba, .int .i64 st, .int .i64 ra, .int .i64 de, .int .i64 hw, .int .i64 ke, .int .i64 cl] by rw [hX]; exact Blk.made w _ _).cfg
  have hbx : Below w.heap.size w x := by rw [hX]; exact (Below.refl _ _).alloc (Nat.le_refl _) _
  clear hX
  go_quiet ((first | (go_at_call 152; exact Calls.quiet_of (HD.out _)) | (go_at_call 105; exact Calls.quiet_of (HM.out _))))
  go_wp2
  go_ret
  exact ⟨rfl, bel_drewN hbx _⟩
theorem highN_succ (g : List Int) (k : Nat) : highN g (k + 1) = max (highN g k) (max (clamp (at0 g k)) (-clamp (at0 g k))) := rfl
def partL (g : List Int) (p : Int) (n k : Nat) : List Int := upto (fun j => if j < k then mulF (at0 g j) p else clamp (at0 g j)) n
theorem partL_zero (g : List Int) (p : Int) (n : Nat) : partL g p n 0 = upto (fun j => clamp (at0 g j)) n := by
 unfold partL upto
 apply List.map_congr_left
 intro j _
 rw [if_neg (Nat.not_lt_zero j)]
theorem partL_all (g : List Int) (p : Int) (n : Nat) : partL g p n n = upto (fun j => mulF (at0 g j) p) n := by
 unfold partL upto
 apply List.map_congr_left
 intro j hj
 rw [if_pos (List.mem_range.1 hj)]
theorem partL_length (g : List Int) (p : Int) (n k : Nat) : (partL g p n k).length = n := upto_length _ _
theorem partL_set (g : List Int) (p : Int) (n k : Nat) : (partL g p n k).set k (mulF (at0 g k) p) = partL g p n (k + 1) := by
 unfold partL upto
 apply List.ext_getElem (by simp)
 intro j h1 h2
 rw [List.getElem_set]
 split
 ·rename_i h
  subst h
  simp
 ·rename_i h
  simp
  by_cases hj : j < k
  ·rw [if_pos hj, if_pos (by omega)]
  ·rw [if_neg hj, if_neg (by omega)]
theorem opt_Clip_ok (A : Option Addr) (n c : Nat) (g : List Int) (most : Int) (w : World) (hx : Ints .i64 w A n g) (hn : n ≤ 200) (h0 : 0 ≤ most) (h1 : most ≤ 2147483647) :
  Calls Tryz.prog 127 #[.slice A n c, .int .i64 most] w (OwnRes w (clipL g most) 0) := by
 obtain ⟨i0, hi0, hz0, hz1, hz2⟩ := info_parts int_info
 have hI := inB_yes (show (0 : Int) ≤ most ∧ most ≤ 2147483647 from ⟨h0, h1⟩)
 go_enter Tryz.func127, Tryz.ntmps127
 go_wp2_with (go_at_call 72; refine (opt_within _ _ _ _).mono ?_; rintro e w' ⟨rfl, rfl⟩)
 go_loopw [6, 7, 9, 24] (fun o hg _ i wr => ∃ k : Nat, k ≤ n ∧ i = .int .i64 k ∧ hg = .int .i64 (highN g k) ∧ wr.ownsRow w.heap.size 3 1 o k ((upto (fun j => clamp (at0 g j)) k).map (.int .i64)) ∧ Below w.heap.size w wr) (fun _ _ _ i _ => n - (intOf i).toNat)
 case atStart => exact ⟨0, by omega, rfl, rfl, World.ownsRow_nil _ _ _ _, Below.refl _ _⟩
 case round =>
  obtain ⟨k, hk, rfl, rfl, hown, hb⟩ := hrel
  have hbs := hb.size
  have hh0 := highN_nonneg g k
  have hh1 := highN_le g k
  by_cases hlt : k < n
  ·obtain ⟨b, off, rfl, hbl, hc⟩ := hx.cells (by omega)
   have g1 := (hb.cell (p := ⟨b, off + k, none⟩) hbl).trans (hc k hlt)
   have l1 := clamp_lo (at0 g k)
   have l2 := clamp_hi (at0 g k)
   have F := Lib.hid (highN_succ g k)
   have G := Lib.hid (upto_succ (fun j => clamp (at0 g j)) k)
   obtain ⟨v, hv⟩ : ∃ v, v = clamp (at0 g k) := ⟨_, rfl⟩
   obtain ⟨h, hh⟩ : ∃ h, h = highN g k := ⟨_, rfl⟩
   have HC := Lib.hid (fun W => fix_Clamp (at0 g k) W)
   rw [← hv] at l1 l2 F G HC
   rw [← hh] at hh0 hh1 F ⊢
   clear hc hv hh
   go_wp2_with (first
    | (go_at_call 125; refine (HC.out _).mono ?_; rintro e w' ⟨rfl, rfl⟩)
    | (at_builtin; refine wpList_append_own _ rfl _ _ 56 rfl w.heap.size 3 i0 (.int .i64 0) 1 8 Tryz.underlying56 hi0 hz0 hz1 hz2 rfl (by decide) u6 k _ rfl (hown.alloc _) ⟨wr.heap.size, 0, none⟩ 1 1 [.int .i64 v] rfl rfl (cell_one_new _ _ _) (by simp [Value.oneCell']) (by unfold maxLen; omega) (by omega) (by simp; omega) ?_; intro v1 w1 hown1 hgrow _))
   all_goals
    have hb2 : Below w.heap.size w w1 := Below.grown (hb.alloc hbs _) hgrow (by simp; omega) (fun x hx => (hown.lt x hx).1)
    rw [← List.map_singleton, ← List.map_append, ← G.out] at hown1
    clear hgrow
    go_roundw
    case rel => exact ⟨k + 1, by omega, by go_num, congrArg (Value.int .i64) (by rw [F.out]; omega), hown1, hb2⟩
    case measure => simp [intOf]; omega
  ·obtain rfl : n = k := by omega
   have HL := Lib.hid hx.len
   by_cases hcut : most = 0 ∨ highN g n ≤ most
   ·have HE := Lib.hid (show clipL g most = upto (fun j => clamp (at0 g j)) n by unfold clipL; rw [hx.len, if_pos hcut])
    rcases hcut with h | h
    ·subst h
     go_wp2
     go_ret2
     exact own_res (by rw [HE.out, upto_length]) (by rw [HE.out]; exact hown) hb
    ·by_cases hm : most = 0
     ·subst hm
      go_wp2
      go_ret2
      exact own_res (by rw [HE.out, upto_length]) (by rw [HE.out]; exact hown) hb
     ·have t : (most == 0) = false := beq_eq_false_iff_ne.2 hm
      clear hm
      go_wp2
      go_ret2
      exact own_res (by rw [HE.out, upto_length]) (by rw [HE.out]; exact hown) hb
   ·obtain ⟨h2, h3⟩ : ¬ most = 0 ∧ most < highN g n := by omega
    have HE := Lib.hid (show clipL g most = partL g (divF most (highN g n)) n n by unfold clipL; rw [hx.len, if_neg hcut, partL_all])
    have hn0 : 0 < n := by
     rcases Nat.eq_zero_or_pos n with h | h
     ·subst h
      have : highN g 0 = 0 := rfl
      omega
     ·exact h
    have t : (most == 0) = false := beq_eq_false_iff_ne.2 h2
    have HD := Lib.hid (fun W => fix_Div_ok most (highN g n) (clamp_pos (by omega)) W)
    obtain ⟨p, hp⟩ : ∃ p, p = divF most (highN g n) := ⟨_, rfl⟩
    rw [← hp] at HE HD
    obtain ⟨gb, cp, rfl, hg1, hg2⟩ := hown.form hn0
    have hown0 : wr.ownsRow w.heap.size 3 1 (.slice (some ⟨gb, 0, none⟩) n cp) n ((partL g p n 0).map (.int .i64)) := by rw [partL_zero]; exact hown
    clear hcut h2 hp hown
    go_wp2_with fail
    refine (HD.out _).mono ?_
    rintro e w2 ⟨rfl, kd, rfl⟩
    have hown2 := own_drewN hown0 kd
    have hb2 := bel_drewN hb kd
    obtain ⟨wa, hwa⟩ : ∃ wa, wa = wr.drewN kd := ⟨_, rfl⟩
    rw [← hwa] at hown2 hb2 ⊢
    clear hwa hown0 hb
    go_wp2
    go_loopw [12, 13, 56] (fun _ _ i ws => ∃ k : Nat, k ≤ n ∧ i = .int .i64 k ∧ ws.ownsRow w.heap.size 3 1 (.slice (some ⟨gb, 0, none⟩) n cp) n ((partL g p n k).map (.int .i64)) ∧ Below w.heap.size w ws) (fun _ _ i _ => n - (intOf i).toNat)
    case atStart => exact ⟨0, by omega, rfl, hown2, hb2⟩
    case round =>
     clear hown2 hb2
     obtain ⟨k, hk, rfl, hown, hb⟩ := hrel
     obtain ⟨ws, rfl⟩ : ∃ ws : World, ws = wr := ⟨_, rfl⟩
     by_cases hl2 : k < n
     ·have c1 := hown.cellAt k (by omega)
      have e1 : ((partL g p n k).map (Value.int .i64))[k]? = some (.int .i64 (clamp (at0 g k))) := by
       rw [List.getElem?_map, List.getElem?_eq_getElem (by rw [partL_length]; exact hl2)]
       simp [partL, upto]
      rw [e1] at c1
      have z1 := hown.frozenAt k
      have F := Lib.hid (partL_set g p n k)
      have HM := Lib.hid (fun W => fix_Mul (clamp (at0 g k)) p W)
      rw [mulF_clamp_l] at HM
      obtain ⟨v, hv⟩ : ∃ v, v = clamp (at0 g k) := ⟨_, rfl⟩
      rw [← hv] at c1 HM
      clear e1 hv
      go_wp2_with (go_at_call 171; refine (HM.out _).mono ?_; rintro e w' ⟨rfl, km, rfl⟩)
      have hown3 := (hown.stored k (.int .i64 (mulF (at0 g k) p))).1
      rw [← List.map_set, F.out] at hown3
      have hb3 := hb.setCell (p := ⟨gb, k, none⟩) (hown.lt gb rfl).1 (.int .i64 (mulF (at0 g k) p))
      go_roundw
      case rel => exact ⟨k + 1, by omega, by go_num, own_drewN hown3 km, bel_drewN hb3 km⟩
      case measure => simp [intOf]; omega
     ·obtain rfl : n = k := by omega
      go_wp2
      go_ret2
      exact own_res (by rw [HE.out, partL_length]) (by rw [HE.out]; exact hown) hb
theorem ref_Clip (A : Option Addr) (n c : Nat) (g : List Int) (most : Int) (w : World) (hx : Ints .i64 w A n g) (hn : n ≤ 200) (h0 : 0 ≤ most) (h1 : most ≤ 2147483647) :
  Calls Tryz.prog 154 #[.slice A n c, .int .i64 most] w (Own1 w (clipL g most)) := by
 obtain ⟨i0, hi0, hz0, hz1, hz2⟩ := info_parts int_info
 go_enter Tryz.func154, Tryz.ntmps154
 go_wp2
 go_loop [5, 6, 7] (fun h i _ => ∃ k : Nat, k ≤ n ∧ i = .int .i64 k ∧ h = .int .i64 (highN g k)) (fun _ i _ => n - (intOf i).toNat)
 case atStart => exact ⟨0, by omega, rfl, rfl⟩
 case round =>
  obtain ⟨k, hk, rfl, rfl⟩ := hrel
  have hh0 := highN_nonneg g k
  have hh1 := highN_le g k
  by_cases hlt : k < n
  ·obtain ⟨b, off, rfl, hbl, hc⟩ := hx.cells (by omega)
   have g1 := hc k hlt
   have l1 := clamp_lo (at0 g k)
   have l2 := clamp_hi (at0 g k)
   have F := Lib.hid (highN_succ g k)
   obtain ⟨v, hv⟩ : ∃ v, v = clamp (at0 g k) := ⟨_, rfl⟩
   obtain ⟨h, hh⟩ : ∃ h, h = highN g k := ⟨_, rfl⟩
   have HC := Lib.hid (fun W => ref_Clamp (at0 g k) W)
   rw [← hv] at l1 l2 F HC
   rw [← hh] at hh0 hh1 F ⊢
   clear hc hv hh
   go_wp2_with (go_at_call 142; refine (HC.out _).mono ?_; rintro e w' ⟨rfl, rfl⟩)
   all_goals
    go_round
    case rel => exact ⟨k + 1, by omega, by go_num, congrArg (Value.int .i64) (by rw [F.out]; omega)⟩
    case measure => simp [intOf]; omega
  ·obtain rfl : n = k := by omega
   by_cases hcut : most = 0 ∨ highN g n ≤ most
   ·have HE := Lib.hid (show clipL g most = upto (fun j => clamp (at0 g j)) n by unfold clipL; rw [hx.len, if_pos hcut])
    obtain ⟨t, ht⟩ : ∃ t : Bool, t = (most != 0) := ⟨_, rfl⟩
    have hcs : (most = 0) ∨ (most ≠ 0 ∧ highN g n ≤ most) := by omega
    obtain ⟨h, hh⟩ : ∃ h, h = highN g n := ⟨_, rfl⟩
    rw [← hh] at hh0 hh1 hcs ⊢
    clear hcut hh ht t
    rcases hcs with rfl | ⟨h2, h3⟩
    ·go_wp2
     go_loopw [8, 9] (fun o i wr => ∃ k : Nat, k ≤ n ∧ i = .int .i64 k ∧ wr.ownsRow w.heap.size 3 1 o k ((upto (fun j => clamp (at0 g j)) k).map (.int .i64)) ∧ Below w.heap.size w wr) (fun _ i _ => n - (intOf i).toNat)
     case atStart => exact ⟨0, by omega, rfl, World.ownsRow_nil _ _ _ _, Below.refl _ _⟩
     case round =>
      obtain ⟨k, hk, rfl, hown, hb⟩ := hrel
      have hbs := hb.size
      by_cases hlt : k < n
      ·obtain ⟨b, off, rfl, hbl, hc⟩ := hx.cells (by omega)
       have g1 := (hb.cell (p := ⟨b, off + k, none⟩) hbl).trans (hc k hlt)
       have G := Lib.hid (upto_succ (fun j => clamp (at0 g j)) k)
       clear hc
       go_wp2_with (first
        | (go_at_call 142; refine (ref_Clamp _ _).mono ?_; rintro e w' ⟨rfl, rfl⟩)
        | (at_builtin; refine wpList_append_own _ rfl _ _ 56 rfl w.heap.size 3 i0 (.int .i64 0) 1 8 Tryz.underlying56 hi0 hz0 hz1 hz2 rfl (by decide) u8 k _ rfl (hown.alloc _) ⟨wr.heap.size, 0, none⟩ 1 1 [.int .i64 (clamp (at0 g k))] rfl rfl (cell_one_new _ _ _) (by simp [Value.oneCell']) (by unfold maxLen; omega) (by omega) (by simp; omega) ?_; intro v1 w1 hown1 hgrow _))
       have hb2 : Below w.heap.size w w1 := Below.grown (hb.alloc hbs _) hgrow (by simp; omega) (fun x hx => (hown.lt x hx).1)
       rw [← List.map_singleton, ← List.map_append, ← G.out] at hown1
       clear hgrow
       go_roundw
       case rel => exact ⟨k + 1, by omega, by go_num, hown1, hb2⟩
       case measure => simp [intOf]; omega
      ·obtain rfl : n = k := by omega
       go_wp2
       go_ret
       exact own_one (by rw [HE.out, upto_length]) (by rw [HE.out]; exact hown) hb
    ·have t : (most != 0) = true := by rw [bne_iff_ne]; exact h2
     clear h2
     go_wp2
     go_loopw [8, 9] (fun o i wr => ∃ k : Nat, k ≤ n ∧ i = .int .i64 k ∧ wr.ownsRow w.heap.size 3 1 o k ((upto (fun j => clamp (at0 g j)) k).map (.int .i64)) ∧ Below w.heap.size w wr) (fun _ i _ => n - (intOf i).toNat)
     case atStart => exact ⟨0, by omega, rfl, World.ownsRow_nil _ _ _ _, Below.refl _ _⟩
     case round =>
      obtain ⟨k, hk, rfl, hown, hb⟩ := hrel
      have hbs := hb.size
      by_cases hlt : k < n
      ·obtain ⟨b, off, rfl, hbl, hc⟩ := hx.cells (by omega)
       have g1 := (hb.cell (p := ⟨b, off + k, none⟩) hbl).trans (hc k hlt)
       have G := Lib.hid (upto_succ (fun j => clamp (at0 g j)) k)
       clear hc
       go_wp2_with (first
        | (go_at_call 142; refine (ref_Clamp _ _).mono ?_; rintro e w' ⟨rfl, rfl⟩)
        | (at_builtin; refine wpList_append_own _ rfl _ _ 56 rfl w.heap.size 3 i0 (.int .i64 0) 1 8 Tryz.underlying56 hi0 hz0 hz1 hz2 rfl (by decide) u8 k _ rfl (hown.alloc _) ⟨wr.heap.size, 0, none⟩ 1 1 [.int .i64 (clamp (at0 g k))] rfl rfl (cell_one_new _ _ _) (by simp [Value.oneCell']) (by unfold maxLen; omega) (by omega) (by simp; omega) ?_; intro v1 w1 hown1 hgrow _))
       have hb2 : Below w.heap.size w w1 := Below.grown (hb.alloc hbs _) hgrow (by simp; omega) (fun x hx => (hown.lt x hx).1)
       rw [← List.map_singleton, ← List.map_append, ← G.out] at hown1
       clear hgrow
       go_roundw
       case rel => exact ⟨k + 1, by omega, by go_num, hown1, hb2⟩
       case measure => simp [intOf]; omega
      ·obtain rfl : n = k := by omega
       go_wp2
       go_ret
       exact own_one (by rw [HE.out, upto_length]) (by rw [HE.out]; exact hown) hb
   ·obtain ⟨h2, h3⟩ : ¬ most = 0 ∧ most < highN g n := by omega
    have HE := Lib.hid (show clipL g most = upto (fun j => mulF (at0 g j) (divF most (highN g n))) n by unfold clipL; rw [hx.len, if_neg hcut])
    have HD := Lib.hid (fun W => ref_Div most (highN g n) (clamp_pos (by omega)) W)
    have t : (most != 0) = true := by rw [bne_iff_ne]; exact h2
    obtain ⟨h, hh⟩ : ∃ h, h = highN g n := ⟨_, rfl⟩
    rw [← hh] at hh0 hh1 h3 HD HE ⊢
    clear hcut hh h2
    go_wp2
    go_loopw [8, 9] (fun o i wr => ∃ k : Nat, k ≤ n ∧ i = .int .i64 k ∧ wr.ownsRow w.heap.size 3 1 o k ((upto (fun j => mulF (at0 g j) (divF most h)) k).map (.int .i64)) ∧ Below w.heap.size w wr) (fun _ i _ => n - (intOf i).toNat)
    case atStart => exact ⟨0, by omega, rfl, World.ownsRow_nil _ _ _ _, Below.refl _ _⟩
    case round =>
     obtain ⟨k, hk, rfl, hown, hb⟩ := hrel
     have hbs := hb.size
     by_cases hlt : k < n
     ·obtain ⟨b, off, rfl, hbl, hc⟩ := hx.cells (by omega)
      have g1 := (hb.cell (p := ⟨b, off + k, none⟩) hbl).trans (hc k hlt)
      have G := Lib.hid (upto_succ (fun j => mulF (at0 g j) (divF most h)) k)
      have HM := Lib.hid (fun W => ref_Mul (at0 g k) (divF most h) W)
      have j0 : (0 : Int) ≤ (k : Int) := by omega
      have j1 : (k : Int) < (n : Int) := by omega
      clear hc
      go_wp2
      go_region_law (first
       | (go_simp; go_at_call 152; refine (HD.out _).mono ?_; rintro e w2 ⟨rfl, hq2'⟩; have hq2 : Quiet wr.drew w2 := hq2'; have g2 : w2.cell? ⟨b, off + k, none⟩ = some (.int .i64 (at0 g k)) := (Quiet.cell hq2 _).trans g1; have own2 := own_quiet (own_drew hown) hq2; have hb2 := Quiet.after hb.drew hq2; clear hq2')
       | (go_simp; go_at_call 105; refine (HM.out _).mono ?_; rintro e w3 ⟨rfl, hq3'⟩; have hq3 : Quiet w2 w3 := hq3'; have own3 := own_quiet own2 hq3; have hb3 := Quiet.after hb2 hq3; have hs3 := hb3.size; clear hq3')
       | (refine step_append_lies _ (by rfl) _ _ _ (by rfl) w.heap.size 3 i0 _ 1 8 Tryz.underlying56 hi0 hz0 hz1 hz2 rfl (by omega) u8 k _ (by rfl) (by exact own3.alloc _) ⟨w3.heap.size, 0, none⟩ 1 1 [.int .i64 (mulF (at0 g k) (divF most h))] (by rfl) (by rfl) (World.news_of_block (cs := #[.int .i64 (mulF (at0 g k) (divF most h))]) (t := 3) (fr := (0, 0)) (heap_alloc_new _ _)) (by simp [Value.oneCell']) (by omega) (by unfold maxLen; omega) (by omega) (by simp; omega) (w3.heap.size + 1) (by simp) ?_; intro gg cp w4 hown1 hgrow hat hlt1))
      all_goals
       have hb4 : Below w.heap.size w w4 := Below.grown (hb3.alloc hs3 _) hgrow (by simp; omega) (fun x hx => (hown.lt x hx).1)
       rw [← List.map_singleton, ← List.map_append, ← G.out] at hown1
       clear hgrow hat
       go_wp2
       go_roundw
       case rel => exact ⟨k + 1, by omega, by go_num, hown1, hb4⟩
       case measure => simp [intOf]; omega
     ·obtain rfl : n = k := by omega
      go_wp2
      go_ret
      exact own_one (by rw [HE.out, upto_length]) (by rw [HE.out]; exact hown) hb
def fillL (f h : Nat → Int) (n k : Nat) : List Int := upto (fun j => if j < k then f j else h j) n
theorem fillL_length (f h : Nat → Int) (n k : Nat) : (fillL f h n k).length = n := upto_length _ _
theorem fillL_zero (f h : Nat → Int) (n : Nat) : fillL f h n 0 = upto h n := by
 unfold fillL upto
 apply List.map_congr_left
 intro j _
 rw [if_neg (Nat.not_lt_zero j)]
theorem fillL_all (f h : Nat → Int) (n : Nat) : fillL f h n n = upto f n := by
 unfold fillL upto
 apply List.map_congr_left
 intro j hj
 rw [if_pos (List.mem_range.1 hj)]
theorem fillL_set (f h : Nat → Int) (n k : Nat) : (fillL f h n k).set k (f k) = fillL f h n (k + 1) := by
 unfold fillL upto
 apply List.ext_getElem (by simp)
 intro j h1 h2
 rw [List.getElem_set]
 split
 ·rename_i h
  subst h
  simp
 ·rename_i h
  simp
  by_cases hj : j < k
  ·rw [if_pos hj, if_pos (by omega)]
  ·rw [if_neg hj, if_neg (by omega)]
theorem fillL_at (f h : Nat → Int) {n k : Nat} (hk : k < n) : ((fillL f h n k).map (Value.int .i64))[k]? = some (.int .i64 (h k)) := by
 rw [List.getElem?_map, List.getElem?_eq_getElem (by rw [fillL_length]; exact hk)]
 simp [fillL, upto]
def StateOwn (w : World) (wt mv : List Int) (x : Int) (e : Ending) (w' : World) : Prop :=
 ∃ A1 k1 A2 k2, e = .returned (.tuple #[.agg #[.slice A1 wt.length k1, .slice A2 mv.length k2], .int .i64 x]) ∧ w'.ownsRow w.heap.size 3 1 (.slice A1 wt.length k1) wt.length (wt.map (.int .i64)) ∧
  w'.ownsRow w.heap.size 3 1 (.slice A2 mv.length k2) mv.length (mv.map (.int .i64)) ∧ Below w.heap.size w w'
theorem Blk.two {w : World} {g : Nat} {t : TypeId} {a b : Value} (h : Blk w g t #[a, b]) : (w.cell? ⟨g, 0, none⟩ = some a ∧ w.cell? ⟨g, 1, none⟩ = some b) ∧ w.frozen? ⟨g, 0, none⟩ = false ∧ w.frozen? ⟨g, 1, none⟩ = false :=
 ⟨⟨h.cell 0, h.cell 1⟩, h.frozen 0, h.frozen 1⟩
theorem opt_clamped1 (n : Int) (w : World) : Calls Tryz.prog 199 #[.int .i64 n] w fun e w' => e = .returned (.bool (badV (.int .i64 n))) ∧ Quiet w w' := by
 go_enter Tryz.func199, Tryz.ntmps199
 go_wp2_with (go_at_call 125; refine (fix_Clamp _ _).mono ?_; rintro e w' ⟨rfl, rfl⟩)
 go_ret
 exact ⟨rfl, Quiet.refl _⟩
theorem opt_clamped (A : Option Addr) (n c : Nat) (xs : List Int) (w : World) (hx : Ints .i64 w A n xs) (hn : n ≤ 9223372036854775807) :
  Calls Tryz.prog 174 #[.slice A n c] w fun e w' => e = .returned (.bool (okL xs)) ∧ Quiet w w' := by
 have H := Lib.hid (oclamped_any A n c _ badV w hx.vals hn fun v W hv _ => by
  obtain ⟨x, _, rfl⟩ := List.mem_map.1 hv
  exact opt_clamped1 x W)
 rw [badV_any .i64] at H
 go_enter Tryz.func174, Tryz.ntmps174
 go_wp2_with (go_at_call 116; refine H.out.mono ?_; rintro e w1 ⟨rfl, hq1⟩)
 go_ret
 exact ⟨ret_bool (by simp), hq1⟩
def StC (x : World) (m N : Nat) (wt mv : List Int) (wx : World) : Prop :=
 ∃ g1 k1 g2 k2, Blk wx m 106 #[.slice (some ⟨g1, 0, none⟩) N k1, .slice (some ⟨g2, 0, none⟩) N k2] ∧ wx.ownsRow x.heap.size 3 1 (.slice (some ⟨g1, 0, none⟩) N k1) N (wt.map (.int .i64)) ∧
  wx.ownsRow x.heap.size 3 1 (.slice (some ⟨g2, 0, none⟩) N k2) N (mv.map (.int .i64)) ∧ g1 ≠ m ∧ g2 ≠ m ∧ g1 ≠ g2 ∧ x.heap.size ≤ m ∧ Below x.heap.size x wx
theorem own_setne {w : World} {base : Nat} {e : TypeId} {size : Nat} {g n c : Nat} {xs : List Value} (h : w.ownsRow base e size (.slice (some ⟨g, 0, none⟩) n c) n xs) {m i : Nat} (hne : g ≠ m) (u : Value) : (w.setCell ⟨m, i, none⟩ u).ownsRow base e size (.slice (some ⟨g, 0, none⟩) n c) n xs :=
 own_keep h fun k hk => by
  have e : g = k := by injection hk
  subst e
  exact heap_setCell_other w ⟨m, i, none⟩ g u hne
theorem StC.set {x u : World} {m N g1 k1 g2 k2 : Nat} {wt mv : List Int} (hz : Blk u m 106 #[.slice none 0 0, .slice none 0 0]) (p1 : u.ownsRow x.heap.size 3 1 (.slice (some ⟨g1, 0, none⟩) N k1) N (wt.map (.int .i64)))
  (p2 : u.ownsRow x.heap.size 3 1 (.slice (some ⟨g2, 0, none⟩) N k2) N (mv.map (.int .i64))) (n1 : g1 ≠ m) (n2 : g2 ≠ m) (n3 : g1 ≠ g2) (hm : x.heap.size ≤ m) (hb : Below x.heap.size x u) :
  StC x m N wt mv ((u.setCell ⟨m, 0, none⟩ (.slice (some ⟨g1, 0, none⟩) N k1)).setCell ⟨m, 1, none⟩ (.slice (some ⟨g2, 0, none⟩) N k2)) :=
 ⟨g1, k1, g2, k2, (hz.put 0 _).put 1 _, own_setne (own_setne p1 n1 _) n1 _, own_setne (own_setne p2 n2 _) n2 _, n1, n2, n3, hm, (hb.setCell (p := ⟨m, 0, none⟩) hm _).setCell (p := ⟨m, 1, none⟩) hm _⟩
theorem StC.new {x u : World} {N g1 k1 g2 k2 : Nat} {wt mv : List Int} (p1 : u.ownsRow x.heap.size 3 1 (.slice (some ⟨g1, 0, none⟩) N k1) N (wt.map (.int .i64)))
  (p2 : u.ownsRow x.heap.size 3 1 (.slice (some ⟨g2, 0, none⟩) N k2) N (mv.map (.int .i64))) (n3 : g1 ≠ g2) (hb : Below x.heap.size x u) :
  StC x u.heap.size N wt mv (u.alloc (.cells #[.slice (some ⟨g1, 0, none⟩) N k1, .slice (some ⟨g2, 0, none⟩) N k2] 106)) :=
 ⟨g1, k1, g2, k2, Blk.made _ _ _, p1.alloc _, p2.alloc _, by have := (p1.lt g1 rfl).2; omega, by have := (p2.lt g2 rfl).2; omega, n3, hb.size, hb.alloc hb.size _⟩
def StepR (x : World) (m N g1 k1 g2 k2 : Nat) (L1 L2 : List Int) (wr : World) : Prop :=
 Below x.heap.size x wr ∧ Blk wr m 106 #[.slice (some ⟨g1, 0, none⟩) N k1, .slice (some ⟨g2, 0, none⟩) N k2] ∧ wr.ownsRow x.heap.size 3 1 (.slice (some ⟨g1, 0, none⟩) N k1) N (L1.map (.int .i64)) ∧
  wr.ownsRow x.heap.size 3 1 (.slice (some ⟨g2, 0, none⟩) N k2) N (L2.map (.int .i64))
section
variable {x wr : World} {m N g1 k1 g2 k2 : Nat} {L1 L2 : List Int}
theorem StepR.drewN (h : StepR x m N g1 k1 g2 k2 L1 L2 wr) (k : Nat) : StepR x m N g1 k1 g2 k2 L1 L2 (wr.drewN k) := ⟨bel_drewN h.1 k, h.2.1.drewN k, own_drewN h.2.2.1 k, own_drewN h.2.2.2 k⟩
theorem StepR.put1 (h : StepR x m N g1 k1 g2 k2 L1 L2 wr) (n1 : g1 ≠ m) (n3 : g1 ≠ g2) (k : Nat) (v : Int) {L : List Int} (hL : L1.set k v = L) : StepR x m N g1 k1 g2 k2 L L2 (wr.setCell ⟨g1, k, none⟩ (.int .i64 v)) := by
 subst hL
 refine ⟨h.1.setCell (p := ⟨g1, k, none⟩) (h.2.2.1.lt g1 rfl).1 _, h.2.1.far (by simpa using n1.symm) _, ?_, own_setne h.2.2.2 n3.symm _⟩
 rw [List.map_set]
 exact (h.2.2.1.stored k _).1
theorem StepR.put2 (h : StepR x m N g1 k1 g2 k2 L1 L2 wr) (n2 : g2 ≠ m) (n3 : g1 ≠ g2) (k : Nat) (v : Int) {L : List Int} (hL : L2.set k v = L) : StepR x m N g1 k1 g2 k2 L1 L (wr.setCell ⟨g2, k, none⟩ (.int .i64 v)) := by
 subst hL
 refine ⟨h.1.setCell (p := ⟨g2, k, none⟩) (h.2.2.2.lt g2 rfl).1 _, h.2.1.far (by simpa using n2.symm) _, own_setne h.2.2.1 n3 _, ?_⟩
 rw [List.map_set]
 exact (h.2.2.2.stored k _).1
end
theorem opt_Step_ok (ci ch co se ba st ra de hw ke cl : Int) (A1 A2 A3 : Option Addr) (N c1 c2 c3 : Nat) (wt mv g : List Int) (rate : Int) (w : World) (i1 : Ints .i64 w A1 N wt) (i2 : Ints .i64 w A2 N mv) (i3 : Ints .i64 w A3 N g)
  (hE : cfgE ci ch co ba st ra de hw ke cl = 0) (hN : (N : Int) = sizeP ci ch co) (o1 : okL wt = true) (o2 : okL mv = true) (hr : 0 ≤ rate ∧ rate ≤ 2147483647) (hN1 : 1 ≤ N) (hN40 : N ≤ 40) :
  Calls Tryz.prog 130 #[.agg #[.int .i64 ci, .int .i64 ch, .int .i64 co, .int .u64 se, .int .i64 ba, .int .i64 st, .int .i64 ra, .int .i64 de, .int .i64 hw, .int .i64 ke, .int .i64 cl], .agg #[.slice A1 N c1, .slice A2 N c2], .slice A3 N c3, .int .i64 rate] w (StateOwn w (weightsL hw ke rate wt mv g) (movesL hw ke mv g) 0) := by
 obtain ⟨s1, s2, s3, _, _, _, _, ⟨hw1, hw2⟩, ⟨ke1, ke2⟩, _⟩ := cfgE_ok hE
 have HS := Lib.hid (fun W => pup_Size ci ch co W s1 s2 s3)
 have hI := inB_yes hr
 have t1 : ((N : Int) != sizeP ci ch co) = false := by rw [bne_eq_false_iff_eq]; exact hN
 have HE := Lib.hid hE
 have HC1 := Lib.hid (fun W (q : Ints .i64 W A1 N wt) => opt_clamped A1 N c1 wt W q (by omega))
 have HC2 := Lib.hid (fun W (q : Ints .i64 W A2 N mv) => opt_clamped A2 N c2 mv W q (by omega))
 rw [o1] at HC1
 rw [o2] at HC2
 have HB0 := ((Blk.made w 29 #[.int .i64 ci, .int .i64 ch, .int .i64 co, .int .u64 se, .int .i64 ba, .int .i64 st, .int .i64 ra, .int .i64 de, .int .i64 hw, .int .i64 ke, .int .i64 cl]).alloc (.cells #[.slice A1 N c1, .slice A2 N c2] 106)).alloc (.cells #[.slice none 0 0, .slice none 0 0] 106)
 have HB1 := (Blk.made' (w.alloc (.cells #[.int .i64 ci, .int .i64 ch, .int .i64 co, .int .u64 se, .int .i64 ba, .int .i64 st, .int .i64 ra, .int .i64 de, .int .i64 hw, .int .i64 ke, .int .i64 cl] 29)) 106 #[.slice A1 N c1, .slice A2 N c2] (g := w.heap.size + 1) (by simp)).alloc (.cells #[.slice none 0 0, .slice none 0 0] 106)
 have HB2 := Blk.made' ((w.alloc (.cells #[.int .i64 ci, .int .i64 ch, .int .i64 co, .int .u64 se, .int .i64 ba, .int .i64 st, .int .i64 ra, .int .i64 de, .int .i64 hw, .int .i64 ke, .int .i64 cl] 29)).alloc (.cells #[.slice A1 N c1, .slice A2 N c2] 106)) 106 #[.slice none 0 0, .slice none 0 0] (g := w.heap.size + 1 + 1) (by simp)
 clear hE hN o1 o2
 go_enter Tryz.func130, Tryz.ntmps130
 go_wp2_with fail
 refine (opt_Check ci ch co se ba st ra de hw ke cl _).mono ?_
 rintro e x1 ⟨rfl, hb1⟩
 rw [HE.out]
 replace HB0 := HB0.below hb1 (by simp <;> omega)
 replace HB1 := HB1.below hb1 (by simp <;> omega)
 replace HB2 := HB2.below hb1 (by simp <;> omega)
 have hbw : Below w.heap.size w x1 := Below.trans (B := w.heap.size) (by repeat (first | exact Below.refl _ _ | assumption | refine bel_drewN ?_ _ | refine Below.drew ?_ | (refine Below.alloc ?_ (by simp <;> omega) _) | (refine Below.setCell ?_ (by simp <;> omega) _))) (hb1.mono (by simp <;> omega))
 obtain ⟨d0, d1, d2, d3, d4, d5, d6, d7, d8, d9, da⟩ := HB0.cfg
 obtain ⟨⟨f0, f1⟩, _⟩ := HB1.two
 have j1 := i1.below hbw
 have j2 := i2.below hbw
 have j3 := i3.below hbw
 clear hb1
 go_wp2_with (go_at_call 85; refine (HS.out _).mono ?_; rintro e w' ⟨rfl, rfl⟩)
 refine (HC1.out _ j1).mono ?_
 rintro e w' ⟨rfl, q1, rfl⟩
 go_wp2_with fail
 refine (HC2.out _ (j2.drewN _)).mono ?_
 rintro e w' ⟨rfl, q2, rfl⟩
 go_upto_region 9 with (go_at_call 72; refine (opt_within _ _ _ _).mono ?_; rintro e w' ⟨rfl, rfl⟩)
 obtain ⟨x, hX⟩ : ∃ x, x = x1.drewN (q1 + q2) := ⟨_, rfl⟩
 rw [← hX]
 replace HB0 : Blk x w.heap.size 29 #[.int .i64 ci, .int .i64 ch, .int .i64 co, .int .u64 se, .int .i64 ba, .int .i64 st, .int .i64 ra, .int .i64 de, .int .i64 hw, .int .i64 ke, .int .i64 cl] := by rw [hX]; exact HB0.drewN _
 replace HB1 : Blk x (w.heap.size + 1) 106 #[.slice A1 N c1, .slice A2 N c2] := by rw [hX]; exact HB1.drewN _
 replace HB2 : Blk x (w.heap.size + 1 + 1) 106 #[.slice none 0 0, .slice none 0 0] := by rw [hX]; exact HB2.drewN _
 replace j1 : Ints .i64 x A1 N wt := by rw [hX]; exact j1.drewN _
 replace j2 : Ints .i64 x A2 N mv := by rw [hX]; exact j2.drewN _
 replace j3 : Ints .i64 x A3 N g := by rw [hX]; exact j3.drewN _
 replace hbw : Below w.heap.size w x := by rw [hX]; exact bel_drewN hbw _
 clear hX d0 d1 d2 d3 d4 d5 d6 d7 d8 d9 da f0 f1 HC1 HC2 HS t1 hI
 go_cut [12] (fun o wx => ∃ m, o = .pointer (some ⟨m, 0, none⟩) ∧ StC x m N wt mv wx)
 case first =>
  have hlx := HB2.lt
  have f0 : x.cell? ⟨w.heap.size + 1, 0, none⟩ = some (.slice A1 N c1) := HB1.cell 0
  have f1 : x.cell? ⟨w.heap.size + 1, 1, none⟩ = some (.slice A2 N c2) := HB1.cell 1
  have hn8 : N * 8 ≤ 140737488351232 := by omega
  have L1 := Lib.hid i1.len
  have L2 := Lib.hid i2.len
  clear HB0 HB1 HB2 i1 i2 i3 j3 hbw HE
  go_region_held3 (fun w' => w'.cell? ⟨w.heap.size + 1, 0, none⟩ = some (.slice A1 N c1) ∧ w'.cell? ⟨w.heap.size + 1, 1, none⟩ = some (.slice A2 N c2)) (first | (exact ⟨f0, f1⟩) | (exact ⟨((((Below.refl x.heap.size x).drew).alloc (Nat.le_refl _) _).cell (p := ⟨w.heap.size + 1, 0, none⟩) (show w.heap.size + 1 < x.heap.size by omega)).trans f0, ((((Below.refl x.heap.size x).drew).alloc (Nat.le_refl _) _).cell (p := ⟨w.heap.size + 1, 1, none⟩) (show w.heap.size + 1 < x.heap.size by omega)).trans f1⟩) | (exact ⟨(B2'.cell (p := ⟨w.heap.size + 1, 0, none⟩) (show w.heap.size + 1 < x.heap.size by omega)).trans f0, (B2'.cell (p := ⟨w.heap.size + 1, 1, none⟩) (show w.heap.size + 1 < x.heap.size by omega)).trans f1⟩) | (exact ⟨((B1'.alloc B1'.size _).cell (p := ⟨w.heap.size + 1, 0, none⟩) (show w.heap.size + 1 < x.heap.size by omega)).trans f0, ((B1'.alloc B1'.size _).cell (p := ⟨w.heap.size + 1, 1, none⟩) (show w.heap.size + 1 < x.heap.size by omega)).trans f1⟩) | (exact ⟨(B1'.cell (p := ⟨w.heap.size + 1, 0, none⟩) (show w.heap.size + 1 < x.heap.size by omega)).trans f0, (B1'.cell (p := ⟨w.heap.size + 1, 1, none⟩) (show w.heap.size + 1 < x.heap.size by omega)).trans f1⟩) | (exact ⟨((B2'.alloc B2'.size _).cell (p := ⟨w.heap.size + 1, 0, none⟩) (show w.heap.size + 1 < x.heap.size by omega)).trans f0, ((B2'.alloc B2'.size _).cell (p := ⟨w.heap.size + 1, 1, none⟩) (show w.heap.size + 1 < x.heap.size by omega)).trans f1⟩) | (exact ⟨(((B2'.setCell (p := ⟨x.heap.size, 0, none⟩) (Nat.le_refl _) _).setCell (p := ⟨x.heap.size, 1, none⟩) (Nat.le_refl _) _).cell (p := ⟨w.heap.size + 1, 0, none⟩) (show w.heap.size + 1 < x.heap.size by omega)).trans f0, (((B2'.setCell (p := ⟨x.heap.size, 0, none⟩) (Nat.le_refl _) _).setCell (p := ⟨x.heap.size, 1, none⟩) (Nat.le_refl _) _).cell (p := ⟨w.heap.size + 1, 1, none⟩) (show w.heap.size + 1 < x.heap.size by omega)).trans f1⟩) | (exact ⟨(((B2'.setCell (p := ⟨u1.heap.size, 0, none⟩) B1'.size _).setCell (p := ⟨u1.heap.size, 1, none⟩) B1'.size _).cell (p := ⟨w.heap.size + 1, 0, none⟩) (show w.heap.size + 1 < x.heap.size by omega)).trans f0, (((B2'.setCell (p := ⟨u1.heap.size, 0, none⟩) B1'.size _).setCell (p := ⟨u1.heap.size, 1, none⟩) B1'.size _).cell (p := ⟨w.heap.size + 1, 1, none⟩) (show w.heap.size + 1 < x.heap.size by omega)).trans f1⟩) | go_keep)
  (first
   | (go_at_call 88; refine ((sl_Clone A1 N c1 wt _ (by first | exact j1.drew | exact (j1.drew).alloc _ | exact (j1.alloc _).drew) hn8).mono ?_); rintro e u1 ⟨S1, k1, rfl, p1, b1⟩; rw [L1.out] at p1 ⊢; obtain ⟨g1, cp1, he1, hg1, hg1'⟩ := p1.form (by omega); obtain ⟨rfl, rfl⟩ : S1 = some ⟨g1, 0, none⟩ ∧ k1 = cp1 := (by injection he1 with a _ c; exact ⟨a, c⟩); clear he1; have B1' : Below x.heap.size x u1 := (by first | exact (Below.refl _ _).drew.trans b1 | exact (((Below.refl _ _).drew).alloc (by simp) _).trans (b1.mono (by simp))))
   | (go_at_call 88; refine ((sl_Clone A2 N c2 mv _ (by first | exact (j2.drew).below b1 | exact ((j2.drew).alloc _).below b1 | exact ((j2.drew).below b1).alloc _ | exact (((j2.drew).alloc _).below b1).alloc _) hn8).mono ?_); rintro e u2 ⟨S2, k2, rfl, p2, b2⟩; rw [L2.out] at p2 ⊢; obtain ⟨g2, cp2, he2, hg2, hg2'⟩ := p2.form (by omega); obtain ⟨rfl, rfl⟩ : S2 = some ⟨g2, 0, none⟩ ∧ k2 = cp2 := (by injection he2 with a _ c; exact ⟨a, c⟩); clear he2; have B2' : Below x.heap.size x u2 := (by first | exact B1'.trans (b2.mono B1'.size) | exact (B1'.alloc B1'.size _).trans (b2.mono (by have := B1'.size; simp; omega))); first | (have hz : Blk u2 x.heap.size 106 #[.slice none 0 0, .slice none 0 0] := Blk.below (Blk.below (Blk.made x.drew 106 #[.slice none 0 0, .slice none 0 0]) b1 (by simp)) b2 (by have := b1.size; simp at this; omega); have y0 := hz.cell 0; have y1 := hz.cell 1; have y2 := hz.frozen 0; have y3 := hz.frozen 1; simp at y0 y1) | (have hz : Blk u2 u1.heap.size 106 #[.slice none 0 0, .slice none 0 0] := Blk.below (Blk.made u1 106 #[.slice none 0 0, .slice none 0 0]) b2 (by simp); have y0 := hz.cell 0; have y1 := hz.cell 1; have y2 := hz.frozen 0; have y3 := hz.frozen 1; simp at y0 y1) | skip))
  all_goals
   go_wp2
   go_meet
   case rel => first
    | exact ⟨_, rfl, StC.new (own_base (own_below p1 b2) (by simp)) (own_base p2 B1'.size) (by have e1 := hg1; have e2 := hg2; have e3 := B1'.size; simp at e1 e2; omega) B2'⟩
    | exact ⟨_, rfl, StC.set hz (own_base (own_below (p1.alloc _) b2) (by simp)) (own_base p2 (by have e3 := B1'.size; simp; omega)) (by have e1 := hg1; have e2 := hg2; have e3 := B1'.size; simp at e1 e2; omega) (by have e1 := hg1; have e2 := hg2; have e3 := B1'.size; simp at e1 e2; omega) (by have e1 := hg1; have e2 := hg2; have e3 := B1'.size; simp at e1 e2; omega) B1'.size B2'⟩
    | exact ⟨_, rfl, StC.set hz (own_base (own_below p1 b2) (by simp)) (own_base p2 B1'.size) (by have e1 := hg1; have e2 := hg2; have e3 := B1'.size; simp at e1 e2; omega) (by have e1 := hg1; have e2 := hg2; have e3 := B1'.size; simp at e1 e2; omega) (by have e1 := hg1; have e2 := hg2; have e3 := B1'.size; simp at e1 e2; omega) (Nat.le_refl _) B2'⟩
 case rest =>
  obtain ⟨m, rfl, g1, k1, g2, k2, hBm, p1, p2, n1, n2, n3, hm, hbc⟩ := hcut
  obtain ⟨y, rfl⟩ : ∃ y : World, y = wc := ⟨_, rfl⟩
  have hlx := HB2.lt
  have OB0 := HB0
  have OB1 := HB1
  have OB2 := HB2
  have l1 := i1.len
  have l2 := i2.len
  have HF1 := Lib.hid (show weightsL hw ke rate wt mv g = upto (fun j => subF (at0 wt j) (mulF rate (moveP hw ke (at0 mv j) (at0 g j)))) N by unfold weightsL; rw [i3.len])
  have HF2 := Lib.hid (show hw = 1 → movesL hw ke mv g = upto (fun j => moveP hw ke (at0 mv j) (at0 g j)) N from fun h => by unfold movesL; rw [if_pos h, i3.len])
  have HF3 := Lib.hid (show ¬ hw = 1 → movesL hw ke mv g = mv from fun h => if_neg h)
  have hs0 : y.ownsRow x.heap.size 3 1 (.slice (some ⟨g1, 0, none⟩) N k1) N ((fillL (fun j => subF (at0 wt j) (mulF rate (moveP hw ke (at0 mv j) (at0 g j)))) (at0 wt) N 0).map (.int .i64)) := by
   rw [fillL_zero, ← l1, upto_at0, l1]; exact p1
  have hs1 : y.ownsRow x.heap.size 3 1 (.slice (some ⟨g2, 0, none⟩) N k2) N ((fillL (fun j => moveP hw ke (at0 mv j) (at0 g j)) (at0 mv) N 0).map (.int .i64)) := by
   rw [fillL_zero, ← l2, upto_at0, l2]; exact p2
  have L2 := Lib.hid l2
  clear p1 HE l1 l2
  have XB0 : Blk x w.heap.size 29 #[.int .i64 ci, .int .i64 ch, .int .i64 co, .int .u64 se, .int .i64 ba, .int .i64 st, .int .i64 ra, .int .i64 de, .int .i64 hw, .int .i64 ke, .int .i64 cl] := OB0
  have XB1 := OB1
  have XB2 := OB2
  clear OB0 OB1 OB2 HB0 HB1 HB2
  by_cases hh : hw = 1
  ·have hh1 : (hw == 1) = true := by rw [beq_iff_eq]; exact hh
   have HH := Lib.hid hh
   clear hh
   have R0 : StepR x m N g1 k1 g2 k2 (fillL (fun j => subF (at0 wt j) (mulF rate (moveP hw ke (at0 mv j) (at0 g j)))) (at0 wt) N 0) (fillL (fun j => moveP hw ke (at0 mv j) (at0 g j)) (at0 mv) N 0) y := ⟨hbc, hBm, hs0, hs1⟩
   clear hs0 hs1 p2 hBm hbc
   go_wp2
   go_loopw [13, 14, 72] (fun _ _ i wr => ∃ k : Nat, k ≤ N ∧ i = .int .i64 k ∧ StepR x m N g1 k1 g2 k2 (fillL (fun j => subF (at0 wt j) (mulF rate (moveP hw ke (at0 mv j) (at0 g j)))) (at0 wt) N k) (fillL (fun j => moveP hw ke (at0 mv j) (at0 g j)) (at0 mv) N k) wr) (fun _ _ i _ => N - (intOf i).toNat)
   case atStart => exact ⟨0, by omega, rfl, R0⟩
   case round =>
    clear R0
    obtain ⟨k, hk, rfl, hR⟩ := hrel
    obtain ⟨q0, qB, q1, q2⟩ := hR
    have e0 := XB0.below q0 XB0.lt
    have e1 := XB1.below q0 XB1.lt
    have e2 := XB2.below q0 XB2.lt
    by_cases hlt : k < N
    ·obtain ⟨b3, f3, rfl, hl3, hc3⟩ := (j3.below q0).cells (by omega)
     have u3 := hc3 k hlt
     obtain ⟨b2, f2, rfl, hl2, hc2⟩ := (j2.below q0).cells (by omega)
     have u2 := hc2 k hlt
     have v1 : wr.cell? ⟨w.heap.size + 1, 1, none⟩ = some (.slice (some ⟨b2, f2, none⟩) N c2) := e1.cell 1
     have d9 : wr.cell? ⟨w.heap.size, 9, none⟩ = some (.int .i64 ke) := e0.cell 9
     have d8 : wr.cell? ⟨w.heap.size, 8, none⟩ = some (.int .i64 hw) := e0.cell 8
     have m1 : wr.cell? ⟨m, 1, none⟩ = some (.slice (some ⟨g2, 0, none⟩) N k2) := qB.cell 1
     have y2 := q2.frozenAt k
     have x2 := (q2.cellAt k (by omega)).trans (fillL_at _ _ hlt)
     have l1 := clamp_lo (at0 g k)
     have l2 := clamp_hi (at0 g k)
     have kk0 : (0 : Int) ≤ (k : Int) := by omega
     have kk1 : (k : Int) < (N : Int) := by omega
     obtain ⟨v, hv⟩ : ∃ v, v = moveP hw ke (at0 mv k) (at0 g k) := ⟨_, rfl⟩
     have hv' : v = addF (mulF ke (at0 mv k)) (at0 g k) := by rw [hv]; exact if_pos HH.out
     have HM := Lib.hid (fun W => fix_Mul ke (at0 mv k) W)
     have HA := Lib.hid (fun W => fix_Add (mulF ke (at0 mv k)) (at0 g k) W)
     rw [← hv'] at HA
     have G2 := Lib.hid (show (fillL (fun j => moveP hw ke (at0 mv j) (at0 g j)) (at0 mv) N k).set k v = fillL (fun j => moveP hw ke (at0 mv j) (at0 g j)) (at0 mv) N (k + 1) by rw [hv]; exact fillL_set _ _ N k)
     have G1 := Lib.hid (show (fillL (fun j => subF (at0 wt j) (mulF rate (moveP hw ke (at0 mv j) (at0 g j)))) (at0 wt) N k).set k (subF (at0 wt k) (mulF rate v)) = fillL (fun j => subF (at0 wt j) (mulF rate (moveP hw ke (at0 mv j) (at0 g j)))) (at0 wt) N (k + 1) by rw [hv]; exact fillL_set _ _ N k)
     have HM2 := Lib.hid (fun W => fix_Mul rate v W)
     have HS2 := Lib.hid (fun W => fix_Sub (at0 wt k) (mulF rate v) W)
     have QR : StepR x m N g1 k1 g2 k2 (fillL (fun j => subF (at0 wt j) (mulF rate (moveP hw ke (at0 mv j) (at0 g j)))) (at0 wt) N k) (fillL (fun j => moveP hw ke (at0 mv j) (at0 g j)) (at0 mv) N k) wr := ⟨q0, qB, q1, q2⟩
     have HQ := Lib.hid QR
     clear hv hv' QR e0 e1 e2 q0 qB q1 q2 hc3 hc2
     go_wp2_with (go_at_call 125; refine (fix_Clamp _ _).mono ?_; rintro e w' ⟨rfl, rfl⟩)
     go_quiet ((first | (go_at_call 171; exact Calls.quiet_of (HM.out _)) | (go_at_call 175; exact Calls.quiet_of ((HA.out _).mono fun _ _ ⟨he, hw⟩ => ⟨he, 0, hw.symm⟩))))
     go_wp2
     obtain ⟨z, hz⟩ : ∃ z, z = (wr.drewN nq).setCell ⟨g2, k, none⟩ (.int .i64 v) := ⟨_, rfl⟩
     rw [← hz]
     have HZ := Lib.hid (show StepR x m N g1 k1 g2 k2 _ _ z by rw [hz]; exact (HQ.out.drewN nq).put2 n2 n3 k v G2.out)
     clear hz u2 v1 d9 m1 y2 x2
     clear u3 d8
     have m0 : z.cell? ⟨m, 0, none⟩ = some (.slice (some ⟨g1, 0, none⟩) N k1) := HZ.out.2.1.cell 0
     have x1' := (HZ.out.2.2.1.cellAt k (by omega)).trans (fillL_at _ _ hlt)
     have y1 := HZ.out.2.2.1.frozenAt k
     go_region_law (first
      | (go_simp; go_at_call 171; refine (HM2.out _).mono ?_; rintro e w' ⟨rfl, kk, rfl⟩)
      | (go_simp; go_at_call 135; refine (HS2.out _).mono ?_; rintro e w' ⟨rfl, rfl⟩))
     all_goals
      go_wp2
      go_roundw
      case rel => first | exact ⟨k + 1, by omega, by go_num, (HZ.out.drewN _).put1 n1 n3 k _ G1.out⟩ | exact ⟨k + 1, by omega, by go_num, (HZ.out.put1 n1 n3 k _ G1.out).drewN _⟩
      case measure => simp [intOf]; omega
    ·obtain rfl : N = k := by omega
     have m0 : wr.cell? ⟨m, 0, none⟩ = some (.slice (some ⟨g1, 0, none⟩) N k1) := qB.cell 0
     have m1 : wr.cell? ⟨m, 1, none⟩ = some (.slice (some ⟨g2, 0, none⟩) N k2) := qB.cell 1
     have r0 : wr.cell? ⟨w.heap.size + 1 + 1, 0, none⟩ = some (.slice none 0 0) := e2.cell 0
     have r1 : wr.cell? ⟨w.heap.size + 1 + 1, 1, none⟩ = some (.slice none 0 0) := e2.cell 1
     have r2 := e2.frozen 0
     have r3 := e2.frozen 1
     have W1 := Lib.hid (show (weightsL hw ke rate wt mv g).length = N by rw [HF1.out, upto_length])
     have W2 := Lib.hid (show (movesL hw ke mv g).length = N by rw [HF2.out HH.out, upto_length])
     have lw := (q1.lt g1 rfl).1
     have lw2 := (q2.lt g2 rfl).1
     rw [fillL_all] at q1 q2
     rw [← HF1.out] at q1
     rw [← HF2.out HH.out] at q2
     have sx := XB2.lt
     have hbf : Below w.heap.size w wr := hbw.trans (q0.mono hbw.size)
     clear qB e0 e1 e2
     go_wp2
     refine bodyPost_ret (v := .tuple #[.agg #[.slice (some ⟨g1, 0, none⟩) N k1, .slice (some ⟨g2, 0, none⟩) N k2], .int .i64 0]) (by simp [results, Tryz.results130, go_sem, r0, r1]) rfl ?_
     refine ⟨some ⟨g1, 0, none⟩, k1, some ⟨g2, 0, none⟩, k2, by rw [W1.out, W2.out], ?_, ?_, (hbf.setCell (by simp <;> omega) _).setCell (by simp <;> omega) _⟩
     ·rw [W1.out]; exact own_base (own_setne (own_setne q1 (by omega) _) (by omega) _) (by omega)
     ·rw [W2.out]; exact own_base (own_setne (own_setne q2 (by omega) _) (by omega) _) (by omega)
  ·have hh1 : (hw == 1) = false := beq_eq_false_iff_ne.2 hh
   have HH := Lib.hid hh
   clear hh
   have R0 : StepR x m N g1 k1 g2 k2 (fillL (fun j => subF (at0 wt j) (mulF rate (moveP hw ke (at0 mv j) (at0 g j)))) (at0 wt) N 0) mv y := ⟨hbc, hBm, hs0, p2⟩
   clear hs0 hs1 p2 hBm hbc
   go_wp2
   go_loopw [13, 14, 72] (fun _ _ i wr => ∃ k : Nat, k ≤ N ∧ i = .int .i64 k ∧ StepR x m N g1 k1 g2 k2 (fillL (fun j => subF (at0 wt j) (mulF rate (moveP hw ke (at0 mv j) (at0 g j)))) (at0 wt) N k) mv wr) (fun _ _ i _ => N - (intOf i).toNat)
   case atStart => exact ⟨0, by omega, rfl, R0⟩
   case round =>
    clear R0
    obtain ⟨k, hk, rfl, hR⟩ := hrel
    obtain ⟨q0, qB, q1, q2⟩ := hR
    have e0 := XB0.below q0 XB0.lt
    have e1 := XB1.below q0 XB1.lt
    have e2 := XB2.below q0 XB2.lt
    by_cases hlt : k < N
    ·obtain ⟨b3, f3, rfl, hl3, hc3⟩ := (j3.below q0).cells (by omega)
     have u3 := hc3 k hlt
     have d8 : wr.cell? ⟨w.heap.size, 8, none⟩ = some (.int .i64 hw) := e0.cell 8
     have l1 := clamp_lo (at0 g k)
     have l2 := clamp_hi (at0 g k)
     have kk0 : (0 : Int) ≤ (k : Int) := by omega
     have kk1 : (k : Int) < (N : Int) := by omega
     obtain ⟨v, hv⟩ : ∃ v, v = moveP hw ke (at0 mv k) (at0 g k) := ⟨_, rfl⟩
     have hv' : v = clamp (at0 g k) := by rw [hv]; exact if_neg HH.out
     have HC := Lib.hid (fun W => fix_Clamp (at0 g k) W)
     rw [← hv'] at HC l1 l2
     have G1 := Lib.hid (show (fillL (fun j => subF (at0 wt j) (mulF rate (moveP hw ke (at0 mv j) (at0 g j)))) (at0 wt) N k).set k (subF (at0 wt k) (mulF rate v)) = fillL (fun j => subF (at0 wt j) (mulF rate (moveP hw ke (at0 mv j) (at0 g j)))) (at0 wt) N (k + 1) by rw [hv]; exact fillL_set _ _ N k)
     have HM2 := Lib.hid (fun W => fix_Mul rate v W)
     have HS2 := Lib.hid (fun W => fix_Sub (at0 wt k) (mulF rate v) W)
     have QR : StepR x m N g1 k1 g2 k2 (fillL (fun j => subF (at0 wt j) (mulF rate (moveP hw ke (at0 mv j) (at0 g j)))) (at0 wt) N k) mv wr := ⟨q0, qB, q1, q2⟩
     have HQ := Lib.hid QR
     clear hv hv' QR e0 e1 e2 q0 qB q1 q2 hc3
     go_wp2_with (go_at_call 125; refine (HC.out _).mono ?_; rintro e w' ⟨rfl, rfl⟩)
     obtain ⟨z, hz⟩ : ∃ z, z = wr := ⟨_, rfl⟩
     rw [← hz]
     have HZ := Lib.hid (show StepR x m N g1 k1 g2 k2 _ _ z by rw [hz]; exact HQ.out)
     clear hz
     clear u3 d8
     have m0 : z.cell? ⟨m, 0, none⟩ = some (.slice (some ⟨g1, 0, none⟩) N k1) := HZ.out.2.1.cell 0
     have x1' := (HZ.out.2.2.1.cellAt k (by omega)).trans (fillL_at _ _ hlt)
     have y1 := HZ.out.2.2.1.frozenAt k
     go_region_law (first
      | (go_simp; go_at_call 171; refine (HM2.out _).mono ?_; rintro e w' ⟨rfl, kk, rfl⟩)
      | (go_simp; go_at_call 135; refine (HS2.out _).mono ?_; rintro e w' ⟨rfl, rfl⟩))
     all_goals
      go_wp2
      go_roundw
      case rel => first | exact ⟨k + 1, by omega, by go_num, (HZ.out.drewN _).put1 n1 n3 k _ G1.out⟩ | exact ⟨k + 1, by omega, by go_num, (HZ.out.put1 n1 n3 k _ G1.out).drewN _⟩
      case measure => simp [intOf]; omega
    ·obtain rfl : N = k := by omega
     have m0 : wr.cell? ⟨m, 0, none⟩ = some (.slice (some ⟨g1, 0, none⟩) N k1) := qB.cell 0
     have m1 : wr.cell? ⟨m, 1, none⟩ = some (.slice (some ⟨g2, 0, none⟩) N k2) := qB.cell 1
     have r0 : wr.cell? ⟨w.heap.size + 1 + 1, 0, none⟩ = some (.slice none 0 0) := e2.cell 0
     have r1 : wr.cell? ⟨w.heap.size + 1 + 1, 1, none⟩ = some (.slice none 0 0) := e2.cell 1
     have r2 := e2.frozen 0
     have r3 := e2.frozen 1
     have W1 := Lib.hid (show (weightsL hw ke rate wt mv g).length = N by rw [HF1.out, upto_length])
     have W2 := Lib.hid (show (movesL hw ke mv g).length = N by rw [HF3.out HH.out]; exact L2.out)
     have lw := (q1.lt g1 rfl).1
     have lw2 := (q2.lt g2 rfl).1
     rw [fillL_all] at q1
     rw [← HF1.out] at q1
     rw [← HF3.out HH.out] at q2
     have sx := XB2.lt
     have hbf : Below w.heap.size w wr := hbw.trans (q0.mono hbw.size)
     clear qB e0 e1 e2
     go_wp2
     refine bodyPost_ret (v := .tuple #[.agg #[.slice (some ⟨g1, 0, none⟩) N k1, .slice (some ⟨g2, 0, none⟩) N k2], .int .i64 0]) (by simp [results, Tryz.results130, go_sem, r0, r1]) rfl ?_
     refine ⟨some ⟨g1, 0, none⟩, k1, some ⟨g2, 0, none⟩, k2, by rw [W1.out, W2.out], ?_, ?_, (hbf.setCell (by simp <;> omega) _).setCell (by simp <;> omega) _⟩
     ·rw [W1.out]; exact own_base (own_setne (own_setne q1 (by omega) _) (by omega) _) (by omega)
     ·rw [W2.out]; exact own_base (own_setne (own_setne q2 (by omega) _) (by omega) _) (by omega)
theorem sizeP_bd {ci ch co : Int} (h1 : 1 ≤ ci ∧ ci ≤ 4) (h2 : 1 ≤ ch ∧ ch ≤ 4) (h3 : 1 ≤ co ∧ co ≤ 4) : 1 ≤ sizeP ci ch co ∧ sizeP ci ch co ≤ 40 := by
 have a := side_mul h2 h1
 have b := side_mul h3 h2
 unfold sizeP
 omega
end Go.Proofs.YtgodgedhddngeaaGreatDoor
