/- What is wrong with a config, and the rate: package optim's calls, and the document's own text: walks, each function once. -/
import Derived.Test.YtblkpibbcapdeaaPupBox
import Derived.Test.YtblkpibbcapdeaaPl
import Derived.IntWalk
import Derived.Test.YtblkpibbcapdeaaVecAny
import Derived.Deep.AppendLies
import Derived.Deep.RegionLaw
namespace Go.Proofs.Ytblkpibbcapdeaa
open Go.RowKit Pl

def cfgB (ci ch co ba st ra de hw ke cl : Int) : Bool :=
  inB ci 1 4 && inB ch 1 4 && inB co 1 4 && inB ba 1 8 && inB st 1 40 && inB ra 0 2147483647 && inB de 0 1 && inB hw 0 1 && inB ke 0 65536 && inB cl 0 2147483647
def cfgE (ci ch co ba st ra de hw ke cl : Int) : Int := if cfgB ci ch co ba st ra de hw ke cl then 0 else 1
theorem inB_iff {n lo hi : Int} : inB n lo hi = true ↔ lo ≤ n ∧ n ≤ hi := by unfold inB; rw [decide_eq_true_eq]
theorem cfgE_ok {ci ch co ba st ra de hw ke cl : Int} (h : cfgE ci ch co ba st ra de hw ke cl = 0) : (1 ≤ ci ∧ ci ≤ 4) ∧ (1 ≤ ch ∧ ch ≤ 4) ∧ (1 ≤ co ∧ co ≤ 4) ∧ (1 ≤ ba ∧ ba ≤ 8) ∧ (1 ≤ st ∧ st ≤ 40) ∧ (0 ≤ ra ∧ ra ≤ 2147483647) ∧ (0 ≤ de ∧ de ≤ 1) ∧ (0 ≤ hw ∧ hw ≤ 1) ∧ (0 ≤ ke ∧ ke ≤ 65536) ∧ (0 ≤ cl ∧ cl ≤ 2147483647) := by
  have hb : cfgB ci ch co ba st ra de hw ke cl = true := by
    cases hc : cfgB ci ch co ba st ra de hw ke cl
    · unfold cfgE at h; rw [hc] at h; simp at h
    · rfl
  unfold cfgB at hb
  simp only [Bool.and_eq_true, inB_iff] at hb
  obtain ⟨⟨⟨⟨⟨⟨⟨⟨⟨a, b⟩, c⟩, d⟩, e⟩, f⟩, g⟩, i⟩, j⟩, k⟩ := hb
  exact ⟨a, b, c, d, e, f, g, i, j, k⟩
theorem cfgE_01 (ci ch co ba st ra de hw ke cl : Int) : cfgE ci ch co ba st ra de hw ke cl = 0 ∨ cfgE ci ch co ba st ra de hw ke cl = 1 := by unfold cfgE; split <;> simp

set_option maxHeartbeats 400000 in
theorem opt_within (n lo hi : Int) (w : World) : Calls Try.prog 52 #[.int .i64 n, .int .i64 lo, .int .i64 hi] w fun e w' => e = .returned (.bool (inB n lo hi)) ∧ w = w' := by
  by_cases h : lo ≤ n
  · have h1 : decide (lo ≤ n) = true := decide_eq_true h
    go_enter Try.func52, Try.ntmps52
    go_wp2
    go_ret
    exact ⟨ret_bool (by simp [inB, h]), rfl⟩
  · have h1 : decide (lo ≤ n) = false := decide_eq_false h
    go_enter Try.func52, Try.ntmps52
    go_wp2
    go_ret
    exact ⟨ret_bool (inB_no (by omega)).symm, rfl⟩

set_option maxRecDepth 100000 in
set_option maxHeartbeats 4000000 in
theorem opt_Check (ci ch co se ba st ra de hw ke cl : Int) (w : World) : Calls Try.prog 33 #[.agg #[.int .i64 ci, .int .i64 ch, .int .i64 co, .int .u64 se, .int .i64 ba, .int .i64 st, .int .i64 ra, .int .i64 de, .int .i64 hw, .int .i64 ke, .int .i64 cl]] w fun e w' => e = .returned (.int .i64 (cfgE ci ch co ba st ra de hw ke cl)) ∧ Below w.heap.size w w' := by
  go_enter Try.func33, Try.ntmps33
  go_wp2
  refine wp_loop_rounds 4 ?_
  cases b0 : inB ci 1 4
  · rw [rounds_succ]
    go_wp2_with (go_at_call 52; refine (opt_within _ _ _ _).mono ?_; rintro e w' ⟨rfl, rfl⟩)
    go_ret
    exact ⟨ret_int (by simp [cfgE, cfgB, b0]), (by repeat (first | exact Below.refl _ _ | assumption | refine bel_drewN ?_ _ | refine Below.drew ?_ | (refine Below.alloc ?_ (by simp <;> omega) _) | (refine Below.setCell ?_ (by simp <;> omega) _)))⟩
  cases b1 : inB ch 1 4
  · rw [rounds_succ]
    go_wp2_with (go_at_call 52; refine (opt_within _ _ _ _).mono ?_; rintro e w' ⟨rfl, rfl⟩)
    rw [rounds_succ]
    go_wp2_with (go_at_call 52; refine (opt_within _ _ _ _).mono ?_; rintro e w' ⟨rfl, rfl⟩)
    go_ret
    exact ⟨ret_int (by simp [cfgE, cfgB, b1]), (by repeat (first | exact Below.refl _ _ | assumption | refine bel_drewN ?_ _ | refine Below.drew ?_ | (refine Below.alloc ?_ (by simp <;> omega) _) | (refine Below.setCell ?_ (by simp <;> omega) _)))⟩
  cases b2 : inB co 1 4
  · rw [rounds_succ]
    go_wp2_with (go_at_call 52; refine (opt_within _ _ _ _).mono ?_; rintro e w' ⟨rfl, rfl⟩)
    rw [rounds_succ]
    go_wp2_with (go_at_call 52; refine (opt_within _ _ _ _).mono ?_; rintro e w' ⟨rfl, rfl⟩)
    rw [rounds_succ]
    go_wp2_with (go_at_call 52; refine (opt_within _ _ _ _).mono ?_; rintro e w' ⟨rfl, rfl⟩)
    go_ret
    exact ⟨ret_int (by simp [cfgE, cfgB, b2]), (by repeat (first | exact Below.refl _ _ | assumption | refine bel_drewN ?_ _ | refine Below.drew ?_ | (refine Below.alloc ?_ (by simp <;> omega) _) | (refine Below.setCell ?_ (by simp <;> omega) _)))⟩
  rw [rounds_succ]
  go_wp2_with (go_at_call 52; refine (opt_within _ _ _ _).mono ?_; rintro e w' ⟨rfl, rfl⟩)
  rw [rounds_succ]
  go_wp2_with (go_at_call 52; refine (opt_within _ _ _ _).mono ?_; rintro e w' ⟨rfl, rfl⟩)
  rw [rounds_succ]
  go_wp2_with (go_at_call 52; refine (opt_within _ _ _ _).mono ?_; rintro e w' ⟨rfl, rfl⟩)
  rw [rounds_succ]
  go_wp2_with (go_at_call 52; refine (opt_within _ _ _ _).mono ?_; rintro e w' ⟨rfl, rfl⟩)
  all_goals go_ret
  all_goals exact ⟨ret_int (by simp_all [cfgE, cfgB]), (by repeat (first | exact Below.refl _ _ | assumption | refine bel_drewN ?_ _ | refine Below.drew ?_ | (refine Below.alloc ?_ (by simp <;> omega) _) | (refine Below.setCell ?_ (by simp <;> omega) _)))⟩

set_option maxRecDepth 100000 in
set_option maxHeartbeats 4000000 in
theorem ref_Config (ci ch co se ba st ra de hw ke cl : Int) (w : World) : Calls Try.prog 15 #[.agg #[.int .i64 ci, .int .i64 ch, .int .i64 co, .int .u64 se, .int .i64 ba, .int .i64 st, .int .i64 ra, .int .i64 de, .int .i64 hw, .int .i64 ke, .int .i64 cl]] w fun e w' => e = .returned (.int .i64 (cfgE ci ch co ba st ra de hw ke cl)) ∧ Below w.heap.size w w' := by
  go_enter Try.func15, Try.ntmps15
  go_wp2_with (go_at_call 30; refine (ref_In _ _ _ _).mono ?_; rintro e w' ⟨rfl, rfl⟩)
  all_goals go_ret
  all_goals exact ⟨ret_int (by simp_all [cfgE, cfgB]), (by repeat (first | exact Below.refl _ _ | assumption | refine bel_drewN ?_ _ | refine Below.drew ?_ | (refine Below.alloc ?_ (by simp <;> omega) _) | (refine Below.setCell ?_ (by simp <;> omega) _)))⟩
end Go.Proofs.Ytblkpibbcapdeaa

/- The rate: package optim, and the document's own text: walks, each function once. -/
namespace Go.Proofs.Ytblkpibbcapdeaa
open Go.RowKit Pl

theorem Blk.cfg {w : World} {g : Nat} {t : TypeId} {a0 a1 a2 a3 a4 a5 a6 a7 a8 a9 aa : Value} (h : Blk w g t #[a0, a1, a2, a3, a4, a5, a6, a7, a8, a9, aa]) :
    w.cell? ⟨g, 0, none⟩ = some a0 ∧ w.cell? ⟨g, 1, none⟩ = some a1 ∧ w.cell? ⟨g, 2, none⟩ = some a2 ∧ w.cell? ⟨g, 3, none⟩ = some a3 ∧ w.cell? ⟨g, 4, none⟩ = some a4 ∧ w.cell? ⟨g, 5, none⟩ = some a5 ∧ w.cell? ⟨g, 6, none⟩ = some a6 ∧ w.cell? ⟨g, 7, none⟩ = some a7 ∧ w.cell? ⟨g, 8, none⟩ = some a8 ∧ w.cell? ⟨g, 9, none⟩ = some a9 ∧ w.cell? ⟨g, 10, none⟩ = some aa :=
  ⟨h.cell 0, h.cell 1, h.cell 2, h.cell 3, h.cell 4, h.cell 5, h.cell 6, h.cell 7, h.cell 8, h.cell 9, h.cell 10⟩
theorem forall_and11 {α : Sort _} {p0 p1 p2 p3 p4 p5 p6 p7 p8 p9 pa : α → Prop} (h : ∀ o, p0 o ∧ p1 o ∧ p2 o ∧ p3 o ∧ p4 o ∧ p5 o ∧ p6 o ∧ p7 o ∧ p8 o ∧ p9 o ∧ pa o) : (∀ o, p0 o) ∧ (∀ o, p1 o) ∧ (∀ o, p2 o) ∧ (∀ o, p3 o) ∧ (∀ o, p4 o) ∧ (∀ o, p5 o) ∧ (∀ o, p6 o) ∧ (∀ o, p7 o) ∧ (∀ o, p8 o) ∧ (∀ o, p9 o) ∧ (∀ o, pa o) :=
  ⟨fun o => (h o).1, fun o => (h o).2.1, fun o => (h o).2.2.1, fun o => (h o).2.2.2.1, fun o => (h o).2.2.2.2.1, fun o => (h o).2.2.2.2.2.1, fun o => (h o).2.2.2.2.2.2.1, fun o => (h o).2.2.2.2.2.2.2.1, fun o => (h o).2.2.2.2.2.2.2.2.1, fun o => (h o).2.2.2.2.2.2.2.2.2.1, fun o => (h o).2.2.2.2.2.2.2.2.2.2⟩

def rateE (x st step : Int) : Int := if x ≠ 0 then x else if inB step 0 (st - 1) then 0 else 1
def rateO (x st ra de step : Int) : Int := if rateE x st step = 0 then rateP de ra st step else 0
theorem rateE_0 {x st step : Int} (h : x ≠ 0) : rateE x st step = x := if_pos h
theorem rateE_1 {x st step : Int} (h : x = 0) (h' : inB step 0 (st - 1) = false) : rateE x st step = 1 := by unfold rateE; rw [if_neg (by simp [h]), h']; rfl
theorem rateE_2 {x st step : Int} (h : x = 0) (h' : inB step 0 (st - 1) = true) : rateE x st step = 0 := by unfold rateE; rw [if_neg (by simp [h]), h']; rfl
theorem clamp_pos {n : Int} (h : 1 ≤ n) : clamp n ≠ 0 := by unfold clamp; split <;> (try split) <;> omega

set_option maxRecDepth 100000 in
set_option maxHeartbeats 2000000 in
theorem opt_Rate (ci ch co se ba st ra de hw ke cl : Int) (step : Int) (w : World) (hs : -9223372036854775808 ≤ step ∧ step ≤ 9223372036854775807) :
    Calls Try.prog 42 #[.agg #[.int .i64 ci, .int .i64 ch, .int .i64 co, .int .u64 se, .int .i64 ba, .int .i64 st, .int .i64 ra, .int .i64 de, .int .i64 hw, .int .i64 ke, .int .i64 cl], .int .i64 step] w fun e w' => e = .returned (.tuple #[.int .i64 (rateO (cfgE ci ch co ba st ra de hw ke cl) st ra de step), .int .i64 (rateE (cfgE ci ch co ba st ra de hw ke cl) st step)]) ∧ Below w.heap.size w w' := by
  have HB := Blk.made w 24 #[.int .i64 ci, .int .i64 ch, .int .i64 co, .int .u64 se, .int .i64 ba, .int .i64 st, .int .i64 ra, .int .i64 de, .int .i64 hw, .int .i64 ke, .int .i64 cl]
  by_cases hE : cfgE ci ch co ba st ra de hw ke cl = 0
  · obtain ⟨_, _, _, _, ⟨s1, s2⟩, ⟨ra1, ra2⟩, ⟨de1, de2⟩, _, _, _⟩ := cfgE_ok hE
    have HE := Lib.hid hE
    rw [hE]
    clear hE
    cases hI : inB step 0 (st - 1)
    · have F1 := Lib.hid (rateE_1 (x := 0) rfl hI)
      have F2 := Lib.hid (show rateO 0 st ra de step = 0 from if_neg (by rw [F1.out]; decide))
      rw [F1.out, F2.out]
      go_enter Try.func42, Try.ntmps42
      go_wp2_with fail
      refine (opt_Check ci ch co se ba st ra de hw ke cl _).mono ?_
      rintro e x1 ⟨rfl, hb1⟩
      rw [HE.out]
      obtain ⟨c0, c1, c2, c3, c4, c5, c6, c7, c8, c9, ca⟩ := (HB.below hb1 (by simp)).cfg
      have hbw : Below w.heap.size w x1 := Below.trans (B := w.heap.size) (by repeat (first | exact Below.refl _ _ | assumption | refine bel_drewN ?_ _ | refine Below.drew ?_ | (refine Below.alloc ?_ (by simp <;> omega) _) | (refine Below.setCell ?_ (by simp <;> omega) _))) (hb1.mono (by simp))
      go_wp2_with (go_at_call 52; refine (opt_within _ _ _ _).mono ?_; rintro e w' ⟨rfl, rfl⟩)
      go_ret2
      exact ⟨rfl, hbw⟩
    · have F1 := Lib.hid (rateE_2 (x := 0) rfl hI)
      have F2 := Lib.hid (show rateO 0 st ra de step = rateP de ra st step from if_pos F1.out)
      rw [F1.out, F2.out]
      obtain ⟨i1, i2⟩ := inB_iff.1 hI
      by_cases hd : de = 0
      · have t : (de == 0) = true := by rw [beq_iff_eq]; exact hd
        rw [show rateP de ra st step = ra from if_pos hd]
        clear hd
        go_enter Try.func42, Try.ntmps42
        go_wp2_with fail
        refine (opt_Check ci ch co se ba st ra de hw ke cl _).mono ?_
        rintro e x1 ⟨rfl, hb1⟩
        rw [HE.out]
        obtain ⟨c0, c1, c2, c3, c4, c5, c6, c7, c8, c9, ca⟩ := (HB.below hb1 (by simp)).cfg
        have hbw : Below w.heap.size w x1 := Below.trans (B := w.heap.size) (by repeat (first | exact Below.refl _ _ | assumption | refine bel_drewN ?_ _ | refine Below.drew ?_ | (refine Below.alloc ?_ (by simp <;> omega) _) | (refine Below.setCell ?_ (by simp <;> omega) _))) (hb1.mono (by simp))
        go_wp2_with (go_at_call 52; refine (opt_within _ _ _ _).mono ?_; rintro e w' ⟨rfl, rfl⟩)
        go_ret2
        exact ⟨rfl, hbw⟩
      · have t : (de == 0) = false := beq_eq_false_iff_ne.2 hd
        rw [show rateP de ra st step = mulF ra (divF (st - step) st) from if_neg hd]
        have HD := Lib.hid (fun W => fix_Div_ok (st - step) st (clamp_pos s1) W)
        have HM := Lib.hid (fun W => fix_Mul ra (divF (st - step) st) W)
        clear hd
        go_enter Try.func42, Try.ntmps42
        go_wp2_with fail
        refine (opt_Check ci ch co se ba st ra de hw ke cl _).mono ?_
        rintro e x1 ⟨rfl, hb1⟩
        rw [HE.out]
        obtain ⟨c0, c1, c2, c3, c4, c5, c6, c7, c8, c9, ca⟩ := (HB.below hb1 (by simp)).cfg
        have hbw : Below w.heap.size w x1 := Below.trans (B := w.heap.size) (by repeat (first | exact Below.refl _ _ | assumption | refine bel_drewN ?_ _ | refine Below.drew ?_ | (refine Below.alloc ?_ (by simp <;> omega) _) | (refine Below.setCell ?_ (by simp <;> omega) _))) (hb1.mono (by simp))
        go_wp2_with (go_at_call 52; refine (opt_within _ _ _ _).mono ?_; rintro e w' ⟨rfl, rfl⟩)
        refine (HD.out _).mono ?_
        rintro e w2 ⟨rfl, k, rfl⟩
        go_wp2_with (go_at_call 58; refine (HM.out _).mono ?_; rintro e w3 ⟨rfl, k3, rfl⟩)
        go_ret2
        exact ⟨rfl, bel_drewN hbw _⟩
  · have t : (cfgE ci ch co ba st ra de hw ke cl != 0) = true := by rw [bne_iff_ne]; exact hE
    rw [show rateO (cfgE ci ch co ba st ra de hw ke cl) st ra de step = 0 from if_neg (by rw [rateE_0 hE]; exact hE), rateE_0 hE]
    clear hE
    go_enter Try.func42, Try.ntmps42
    go_wp2_with fail
    refine (opt_Check ci ch co se ba st ra de hw ke cl _).mono ?_
    rintro e x1 ⟨rfl, hb1⟩
    have hbw : Below w.heap.size w x1 := Below.trans (B := w.heap.size) (by repeat (first | exact Below.refl _ _ | assumption | refine bel_drewN ?_ _ | refine Below.drew ?_ | (refine Below.alloc ?_ (by simp <;> omega) _) | (refine Below.setCell ?_ (by simp <;> omega) _))) (hb1.mono (by simp))
    go_wp2
    go_ret2
    exact ⟨rfl, hbw⟩

end Go.Proofs.Ytblkpibbcapdeaa

/- What is clipped: package optim, and the document's own text: walks, each function once. -/
namespace Go.Proofs.Ytblkpibbcapdeaa
open Go.RowKit Pl

def clipE (n : Nat) (most : Int) : Int := if 200 < n then 2 else if inB most 0 2147483647 then 0 else 1
def clipO (g : List Int) (most : Int) : List Int := if clipE g.length most = 0 then clipL g most else []
theorem highN_succ (g : List Int) (k : Nat) : highN g (k + 1) = max (highN g k) (max (clamp (at0 g k)) (-clamp (at0 g k))) := rfl
/-- The first k numbers taken by the part, the rest clamped. -/
def partL (g : List Int) (p : Int) (n k : Nat) : List Int := upto (fun j => if j < k then mulF (at0 g j) p else clamp (at0 g j)) n
theorem partL_zero (g : List Int) (p : Int) (n : Nat) : partL g p n 0 = upto (fun j => clamp (at0 g j)) n := by
  unfold partL upto
  apply List.map_congr_left
  intro j _
  rw [if_neg (Nat.not_lt_zero j)]
theorem partL_all (g : List Int) (p : Int) (n : Nat) : partL g p n n = upto (fun j => mulF (at0 g j) p) n := by
  unfold partL upto
  apply List.map_congr_left
  intro j hj
  rw [if_pos (List.mem_range.1 hj)]
theorem partL_length (g : List Int) (p : Int) (n k : Nat) : (partL g p n k).length = n := upto_length _ _
theorem partL_set (g : List Int) (p : Int) (n k : Nat) : (partL g p n k).set k (mulF (at0 g k) p) = partL g p n (k + 1) := by
  unfold partL upto
  apply List.ext_getElem (by simp)
  intro j h1 h2
  rw [List.getElem_set]
  split
  · rename_i h
    subst h
    simp
  · rename_i h
    simp
    by_cases hj : j < k
    · rw [if_pos hj, if_pos (by omega)]
    · rw [if_neg hj, if_neg (by omega)]

set_option maxRecDepth 100000 in
set_option maxHeartbeats 1000000 in
theorem opt_Clip_no (A : Option Addr) (n c : Nat) (most : Int) (w : World) (he : clipE n most ≠ 0) :
    Calls Try.prog 40 #[.slice A n c, .int .i64 most] w fun e w' => e = .returned (.tuple #[.slice none 0 0, .int .i64 (clipE n most)]) ∧ w = w' := by
  unfold clipE at he ⊢
  by_cases h : 200 < n
  · rw [if_pos h]
    clear he
    go_enter Try.func40, Try.ntmps40
    go_wp2
    go_ret2
    exact ⟨rfl, rfl⟩
  · rw [if_neg h] at he ⊢
    cases hI : inB most 0 2147483647
    · rw [if_neg (by simp)]
      clear he
      go_enter Try.func40, Try.ntmps40
      go_wp2_with (go_at_call 52; refine (opt_within _ _ _ _).mono ?_; rintro e w' ⟨rfl, rfl⟩)
      go_ret2
      exact ⟨rfl, rfl⟩
    · exact absurd (if_pos hI) he

set_option maxRecDepth 100000 in
set_option maxHeartbeats 2000000 in
theorem opt_Clip_ok (A : Option Addr) (n c : Nat) (g : List Int) (most : Int) (w : World) (hx : Ints .i64 w A n g) (hn : n ≤ 200) (h0 : 0 ≤ most) (h1 : most ≤ 2147483647) :
    Calls Try.prog 40 #[.slice A n c, .int .i64 most] w (OwnRes w (clipL g most) 0) := by
  obtain ⟨i0, hi0, hz0, hz1, hz2⟩ := info_parts int_info
  have hI := inB_yes (show (0 : Int) ≤ most ∧ most ≤ 2147483647 from ⟨h0, h1⟩)
  go_enter Try.func40, Try.ntmps40
  go_wp2_with (go_at_call 52; refine (opt_within _ _ _ _).mono ?_; rintro e w' ⟨rfl, rfl⟩)
  go_loopw [6, 7, 9, 24] (fun o hg _ i wr => ∃ k : Nat, k ≤ n ∧ i = .int .i64 k ∧ hg = .int .i64 (highN g k) ∧ wr.ownsRow w.heap.size 3 1 o k ((upto (fun j => clamp (at0 g j)) k).map (.int .i64)) ∧ Below w.heap.size w wr) (fun _ _ _ i _ => n - (intOf i).toNat)
  case atStart => exact ⟨0, by omega, rfl, rfl, World.ownsRow_nil _ _ _ _, Below.refl _ _⟩
  case round =>
    obtain ⟨k, hk, rfl, rfl, hown, hb⟩ := hrel
    have hbs := hb.size
    have hh0 := highN_nonneg g k
    have hh1 := highN_le g k
    by_cases hlt : k < n
    · obtain ⟨b, off, rfl, hbl, hc⟩ := hx.cells (by omega)
      have g1 := (hb.cell (p := ⟨b, off + k, none⟩) hbl).trans (hc k hlt)
      have l1 := clamp_lo (at0 g k)
      have l2 := clamp_hi (at0 g k)
      have F := Lib.hid (highN_succ g k)
      have G := Lib.hid (upto_succ (fun j => clamp (at0 g j)) k)
      obtain ⟨v, hv⟩ : ∃ v, v = clamp (at0 g k) := ⟨_, rfl⟩
      obtain ⟨h, hh⟩ : ∃ h, h = highN g k := ⟨_, rfl⟩
      have HC := Lib.hid (fun W => fix_Clamp (at0 g k) W)
      rw [← hv] at l1 l2 F G HC
      rw [← hh] at hh0 hh1 F ⊢
      clear hc hv hh
      go_wp2_with (first
        | (go_at_call 54; refine (HC.out _).mono ?_; rintro e w' ⟨rfl, rfl⟩)
        | (at_builtin; refine wpList_append_own _ rfl _ _ 26 rfl w.heap.size 3 i0 (.int .i64 0) 1 8 Try.underlying26 hi0 hz0 hz1 hz2 rfl (by decide) u6 k _ rfl (hown.alloc _) ⟨wr.heap.size, 0, none⟩ 1 1 [.int .i64 v] rfl rfl (cell_one_new _ _ _) (by simp [Value.oneCell']) (by unfold maxLen; omega) (by omega) (by simp; omega) ?_; intro v1 w1 hown1 hgrow _))
      all_goals
        have hb2 : Below w.heap.size w w1 := Below.grown (hb.alloc hbs _) hgrow (by simp; omega) (fun x hx => (hown.lt x hx).1)
        rw [← List.map_singleton, ← List.map_append, ← G.out] at hown1
        clear hgrow
        go_roundw
        case rel => exact ⟨k + 1, by omega, by go_num, congrArg (Value.int .i64) (by rw [F.out]; omega), hown1, hb2⟩
        case measure => simp [intOf]; omega
    · obtain rfl : n = k := by omega
      have HL := Lib.hid hx.len
      by_cases hcut : most = 0 ∨ highN g n ≤ most
      · have HE := Lib.hid (show clipL g most = upto (fun j => clamp (at0 g j)) n by unfold clipL; rw [hx.len, if_pos hcut])
        rcases hcut with h | h
        · subst h
          go_wp2
          go_ret2
          exact own_res (by rw [HE.out, upto_length]) (by rw [HE.out]; exact hown) hb
        · by_cases hm : most = 0
          · subst hm
            go_wp2
            go_ret2
            exact own_res (by rw [HE.out, upto_length]) (by rw [HE.out]; exact hown) hb
          · have t : (most == 0) = false := beq_eq_false_iff_ne.2 hm
            clear hm
            go_wp2
            go_ret2
            exact own_res (by rw [HE.out, upto_length]) (by rw [HE.out]; exact hown) hb
      · obtain ⟨h2, h3⟩ : ¬ most = 0 ∧ most < highN g n := by omega
        have HE := Lib.hid (show clipL g most = partL g (divF most (highN g n)) n n by unfold clipL; rw [hx.len, if_neg hcut, partL_all])
        have hn0 : 0 < n := by
          rcases Nat.eq_zero_or_pos n with h | h
          · subst h
            have : highN g 0 = 0 := rfl
            omega
          · exact h
        have t : (most == 0) = false := beq_eq_false_iff_ne.2 h2
        have HD := Lib.hid (fun W => fix_Div_ok most (highN g n) (clamp_pos (by omega)) W)
        obtain ⟨p, hp⟩ : ∃ p, p = divF most (highN g n) := ⟨_, rfl⟩
        rw [← hp] at HE HD
        obtain ⟨gb, cp, rfl, hg1, hg2⟩ := hown.form hn0
        have hown0 : wr.ownsRow w.heap.size 3 1 (.slice (some ⟨gb, 0, none⟩) n cp) n ((partL g p n 0).map (.int .i64)) := by rw [partL_zero]; exact hown
        clear hcut h2 hp hown
        go_wp2_with fail
        refine (HD.out _).mono ?_
        rintro e w2 ⟨rfl, kd, rfl⟩
        have hown2 := own_drewN hown0 kd
        have hb2 := bel_drewN hb kd
        obtain ⟨wa, hwa⟩ : ∃ wa, wa = wr.drewN kd := ⟨_, rfl⟩
        rw [← hwa] at hown2 hb2 ⊢
        clear hwa hown0 hb
        go_wp2
        go_loopw [12, 13, 56] (fun _ _ i ws => ∃ k : Nat, k ≤ n ∧ i = .int .i64 k ∧ ws.ownsRow w.heap.size 3 1 (.slice (some ⟨gb, 0, none⟩) n cp) n ((partL g p n k).map (.int .i64)) ∧ Below w.heap.size w ws) (fun _ _ i _ => n - (intOf i).toNat)
        case atStart => exact ⟨0, by omega, rfl, hown2, hb2⟩
        case round =>
          clear hown2 hb2
          obtain ⟨k, hk, rfl, hown, hb⟩ := hrel
          obtain ⟨ws, rfl⟩ : ∃ ws : World, ws = wr := ⟨_, rfl⟩
          by_cases hl2 : k < n
          · have c1 := hown.cellAt k (by omega)
            have e1 : ((partL g p n k).map (Value.int .i64))[k]? = some (.int .i64 (clamp (at0 g k))) := by
              rw [List.getElem?_map, List.getElem?_eq_getElem (by rw [partL_length]; exact hl2)]
              simp [partL, upto]
            rw [e1] at c1
            have z1 := hown.frozenAt k
            have F := Lib.hid (partL_set g p n k)
            have HM := Lib.hid (fun W => fix_Mul (clamp (at0 g k)) p W)
            rw [mulF_clamp_l] at HM
            obtain ⟨v, hv⟩ : ∃ v, v = clamp (at0 g k) := ⟨_, rfl⟩
            rw [← hv] at c1 HM
            clear e1 hv
            go_wp2_with (go_at_call 58; refine (HM.out _).mono ?_; rintro e w' ⟨rfl, km, rfl⟩)
            have hown3 := (hown.stored k (.int .i64 (mulF (at0 g k) p))).1
            rw [← List.map_set, F.out] at hown3
            have hb3 := hb.setCell (p := ⟨gb, k, none⟩) (hown.lt gb rfl).1 (.int .i64 (mulF (at0 g k) p))
            go_roundw
            case rel => exact ⟨k + 1, by omega, by go_num, own_drewN hown3 km, bel_drewN hb3 km⟩
            case measure => simp [intOf]; omega
          · obtain rfl : n = k := by omega
            go_wp2
            go_ret2
            exact own_res (by rw [HE.out, partL_length]) (by rw [HE.out]; exact hown) hb

theorem opt_Clip_any (A : Option Addr) (n c : Nat) (g : List Int) (most : Int) (w : World) (hx : Ints .i64 w A n g) :
    Calls Try.prog 40 #[.slice A n c, .int .i64 most] w (ListRes w (clipO g most) (clipE n most)) := by
  by_cases he : clipE n most = 0
  · have e : clipO g most = clipL g most := if_pos (by rw [hx.len]; exact he)
    rw [he, e]
    unfold clipE at he
    by_cases h : 200 < n
    · rw [if_pos h] at he; omega
    · rw [if_neg h] at he
      cases hI : inB most 0 2147483647
      · rw [hI] at he; simp at he
      · obtain ⟨h0, h1⟩ := inB_iff.1 hI
        exact (opt_Clip_ok A n c g most w hx (by omega) h0 h1).mono fun e w' h => .of_own h
  · have e : clipO g most = [] := if_neg (by rw [hx.len]; exact he)
    rw [e]
    exact (opt_Clip_no A n c most w he).mono fun e w' ⟨h, hw⟩ => .of_no h (hw ▸ Below.refl _ _)

end Go.Proofs.Ytblkpibbcapdeaa
