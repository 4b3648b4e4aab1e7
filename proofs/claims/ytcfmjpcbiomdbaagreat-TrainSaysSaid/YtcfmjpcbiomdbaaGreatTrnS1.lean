/- What the law TrainSays calls, right or wrong: walks. -/
import Derived.Test.YtcfmjpcbiomdbaaGreatRStates
import Derived.Test.YtcfmjpcbiomdbaaGreatSameS
import Derived.Test.YtcfmjpcbiomdbaaGreatSpotJ
namespace Go.Proofs.YtcfmjpcbiomdbaaGreat
open Go.RowKit Pl

def startO (c : Cfg) : List Int × List Int := if c.E = 0 then start c else ([], [])
def nextO (c : Cfg) (ds : Data) (s : List Int × List Int) (step : Int) : List Int × List Int := if nextE c ds s step = 0 then nextS c ds s step.toNat else ([], [])
def batO (c : Cfg) (ds : Data) (s : List Int × List Int) (step : Int) : List Int := if nextE c ds s step = 0 then (batI c ds step.toNat).map fun (n : Nat) => (n : Int) else []
def raO (c : Cfg) (ds : Data) (s : List Int × List Int) (step : Int) : Int := if nextE c ds s step = 0 then ratI c step.toNat else 0
def runE (c : Cfg) (ds : Data) (N0 : Int) : Int := if crs c ds ≠ 0 then crs c ds else if 0 ≤ N0 ∧ N0 ≤ c.steps then 0 else 1
def runM (c : Cfg) (ds : Data) (N0 : Int) : Nat := if runE c ds N0 = 0 then N0.toNat + 1 else 0
/-- A state in two slices. -/
def StIn (w : World) (N : Nat) (A1 : Option Addr) (n1 : Nat) (A2 : Option Addr) (n2 : Nat) (s : List Int × List Int) : Prop := Ints .i64 w A1 n1 s.1 ∧ Ints .i64 w A2 n2 s.2 ∧ n1 ≤ N ∧ n2 ≤ N

set_option maxRecDepth 100000 in
set_option maxHeartbeats 2000000 in
theorem trn_Start_no (c : Cfg) (w : World) (hE : c.E ≠ 0) :
    Calls Tryz.prog 12 #[.agg #[.int .i64 c.ci, .int .i64 c.ch, .int .i64 c.co, .int .u64 c.seed, .int .i64 c.batch, .int .i64 c.steps, .int .i64 c.rate, .int .i64 c.decay, .int .i64 c.how, .int .i64 c.keep, .int .i64 c.clip]] w fun e w' => e = .returned (.tuple #[.agg #[.slice none 0 0, .slice none 0 0], .int .i64 c.E]) ∧ Below w.heap.size w w' := by
  have HB1 := Blk.made' (w.alloc (.cells #[.int .i64 c.ci, .int .i64 c.ch, .int .i64 c.co, .int .u64 c.seed, .int .i64 c.batch, .int .i64 c.steps, .int .i64 c.rate, .int .i64 c.decay, .int .i64 c.how, .int .i64 c.keep, .int .i64 c.clip] 24)) 28 #[.slice none 0 0, .slice none 0 0] (g := w.heap.size + 1) (by simp)
  have b0 : Below w.heap.size w ((w.alloc (.cells #[.int .i64 c.ci, .int .i64 c.ch, .int .i64 c.co, .int .u64 c.seed, .int .i64 c.batch, .int .i64 c.steps, .int .i64 c.rate, .int .i64 c.decay, .int .i64 c.how, .int .i64 c.keep, .int .i64 c.clip] 24)).alloc (.cells #[.slice none 0 0, .slice none 0 0] 28)) := (by repeat (first | exact Below.refl _ _ | assumption | refine bel_drewN ?_ _ | refine Below.drew ?_ | (refine Below.alloc ?_ (by simp <;> omega) _) | (refine Below.setCell ?_ (by simp <;> omega) _)))
  have HCK := Lib.hid (fun W => cfg_Check c W)
  have t : (c.E != 0) = true := by rw [bne_iff_ne]; exact hE
  obtain ⟨z, hz⟩ : ∃ z, z = c.E := ⟨_, rfl⟩
  rw [← hz] at t HCK ⊢
  clear hE hz
  go_enter Tryz.func12, Tryz.ntmps12
  go_wp2_with fail
  refine (HCK.out _).mono ?_
  rintro e x1 ⟨rfl, hb1⟩
  have BR := HB1.below hb1 HB1.lt
  have hbw := b0.trans (hb1.mono b0.size)
  have r0 : x1.cell? ⟨w.heap.size + 1, 0, none⟩ = some (.slice none 0 0) := BR.cell 0
  have r1 : x1.cell? ⟨w.heap.size + 1, 1, none⟩ = some (.slice none 0 0) := BR.cell 1
  have r2 := BR.frozen 0
  have r3 := BR.frozen 1
  have hlr := BR.lt
  have hbf := (hbw.setCell (p := ⟨w.heap.size + 1, 0, none⟩) (by simp) (.slice none 0 0)).setCell (p := ⟨w.heap.size + 1, 1, none⟩) (by simp) (.slice none 0 0)
  go_wp2
  refine bodyPost_ret (v := .tuple #[.agg #[.slice none 0 0, .slice none 0 0], .int .i64 z]) (by simp [results, Tryz.results12, go_sem, r0, r1]) rfl ?_
  exact ⟨rfl, hbf⟩
theorem trn_Start_any (c : Cfg) (w : World) (s0 : 0 ≤ c.seed) (s1 : c.seed < 18446744073709551616) :
    Calls Tryz.prog 12 #[.agg #[.int .i64 c.ci, .int .i64 c.ch, .int .i64 c.co, .int .u64 c.seed, .int .i64 c.batch, .int .i64 c.steps, .int .i64 c.rate, .int .i64 c.decay, .int .i64 c.how, .int .i64 c.keep, .int .i64 c.clip]] w fun e w' => ∃ A1 n1 k1 A2 n2 k2, e = .returned (.tuple #[.agg #[.slice A1 n1 k1, .slice A2 n2 k2], .int .i64 c.E]) ∧ StIn w' 40 A1 n1 A2 n2 (startO c) ∧ Below w.heap.size w w' := by
  by_cases hE : c.E = 0
  · rw [show startO c = start c from if_pos hE, hE]
    have h40 := (Cfg.ok hE).n40
    obtain ⟨l1, l2, _, _⟩ := fits_iff.1 (fits_start c)
    refine (start_fine c hE s0 s1 w).mono ?_
    rintro e w' ⟨A1, k1, A2, k2, rfl, o1, o2, hb⟩
    exact ⟨A1, _, k1, A2, _, k2, rfl, ⟨Ints.of_own o1 l1, Ints.of_own o2 l2, h40, h40⟩, hb⟩
  · rw [show startO c = ([], []) from if_neg hE]
    refine (trn_Start_no c w hE).mono ?_
    rintro e w' ⟨rfl, hb⟩
    exact ⟨none, 0, 0, none, 0, 0, rfl, ⟨Ints.nil _ _ _, Ints.nil _ _ _, by omega, by omega⟩, hb⟩
theorem trn_Next_any (c : Cfg) (ds : Data) (s0 : 0 ≤ c.seed) (s1 : c.seed < 18446744073709551616) (D : Option Addr) (n dc : Nat) (w : World) (hd : Duos w D n ds) (hn : n ≤ 9223372036854775806) (s : List Int × List Int) (A1 A2 : Option Addr) (n1 n2 k1 k2 : Nat) (i1 : Ints .i64 w A1 n1 s.1) (i2 : Ints .i64 w A2 n2 s.2) (z1 : n1 ≤ 9223372036854775807) (z2 : n2 ≤ 9223372036854775807) (hk1 : n1 ≤ k1) (step : Int) :
    Calls Tryz.prog 13 #[.agg #[.int .i64 c.ci, .int .i64 c.ch, .int .i64 c.co, .int .u64 c.seed, .int .i64 c.batch, .int .i64 c.steps, .int .i64 c.rate, .int .i64 c.decay, .int .i64 c.how, .int .i64 c.keep, .int .i64 c.clip], .slice D n dc, .agg #[.slice A1 n1 k1, .slice A2 n2 k2], .int .i64 step] w fun e w' => ∃ B1 m1 q1 B2 m2 q2 E ne ec, e = .returned (.tuple #[.agg #[.slice B1 m1 q1, .slice B2 m2 q2], .slice E ne ec, .int .i64 (raO c ds s step), .int .i64 (nextE c ds s step)]) ∧
      StIn w' 40 B1 m1 B2 m2 (nextO c ds s step) ∧ Ints .i64 w' E ne (batO c ds s step) ∧ ne ≤ 8 ∧ Below w.heap.size w w' := by
  by_cases h : nextE c ds s step = 0
  · obtain ⟨hC, hF, q1, q2⟩ := nextE_0 h
    have hok := (fine hC).ok
    have h40 := hok.n40
    have hba := hok.ba
    obtain ⟨f1, f2, _, _⟩ := fits_iff.1 hF
    have e1 : n1 = c.N := by rw [← i1.len]; exact f1
    have e2 : n2 = c.N := by rw [← i2.len]; exact f2
    subst e1
    rw [show raO c ds s step = ratI c step.toNat from if_pos h, show nextO c ds s step = nextS c ds s step.toNat from if_pos h, show batO c ds s step = _ from if_pos h, h]
    obtain ⟨j, rfl⟩ : ∃ j : Nat, step = (j : Int) := ⟨step.toNat, by omega⟩
    obtain ⟨l1, l2, _, _⟩ := fits_iff.1 (fits_next ds hF j)
    rw [e2] at i2 ⊢
    rw [Int.toNat_natCast]
    refine (trn_Next_ok c ds hC s0 s1 D n dc w hd s hF A1 A2 k1 k2 i1 i2 hk1 j q2).mono ?_
    rintro e w' ⟨B1, q1, B2, q2, E, ec, rfl, O1, O2, O3, hb⟩
    exact ⟨B1, _, q1, B2, _, q2, E, _, ec, rfl, ⟨Ints.of_own O1 l1, Ints.of_own O2 l2, h40, h40⟩, Ints.of_own O3 (by rw [List.length_map, batI_length]), by omega, hb⟩
  · rw [show raO c ds s step = 0 from if_neg h, show nextO c ds s step = ([], []) from if_neg h, show batO c ds s step = [] from if_neg h]
    refine (trn_Next_no c ds D n dc w hd hn s A1 A2 n1 n2 k1 k2 i1 i2 z1 z2 step h).mono ?_
    rintro e w' ⟨rfl, hb⟩
    exact ⟨none, 0, 0, none, 0, 0, none, 0, 0, rfl, ⟨Ints.nil _ _ _, Ints.nil _ _ _, by omega, by omega⟩, Ints.nil _ _ _, by omega, hb⟩
theorem StHeld.toDuos {m : Option Nat} {B : Nat} {f : Nat → List Int × List Int} {k g c : Nat} {w : World} (h : StHeld m B f k (.slice (some ⟨g, 0, none⟩) k c) w) : Duos w (some ⟨g, 0, none⟩) k (upto f k) := by
  refine ⟨upto_length _ _, fun hk => ⟨g, 0, rfl, (h.lt g rfl).2, fun j hj => ?_⟩⟩
  obtain ⟨cs, ⟨a, b, rfl, ⟨A1, c1, rfl, i1, l1, m1, _⟩, ⟨A2, c2, rfl, i2, l2, m2, _⟩⟩, hc, hg, _⟩ := h.at hj
  have e : duoAt (upto f k) j = f j := by
    unfold duoAt upto
    rw [List.getElem?_map, List.getElem?_range hj]; rfl
  rw [e, Nat.zero_add]
  exact ⟨A1, _, c1, A2, _, c2, hc 0 (by omega), hc 1 (by omega), i1, i2, l1, m1, l2, m2⟩
theorem runM_st (c : Cfg) (ds : Data) (N0 : Int) : ∀ j, j < runM c ds N0 → (duoAt (upto (states c ds) (runM c ds N0)) j).1.length ≤ 40 ∧ (duoAt (upto (states c ds) (runM c ds N0)) j).2.length ≤ 40 := by
  intro j hj
  have e : duoAt (upto (states c ds) (runM c ds N0)) j = states c ds j := by
    unfold duoAt upto
    rw [List.getElem?_map, List.getElem?_range hj]; rfl
  rw [e, states_len1, states_len2]
  have hC : crs c ds = 0 := by
    refine Decidable.byContradiction fun h => ?_
    have : runM c ds N0 = 0 := if_neg (by rw [show runE c ds N0 = crs c ds from if_pos h]; exact h)
    omega
  have := (fine hC).ok.n40
  omega
theorem run_crs {c : Cfg} {ds : Data} {N0 : Int} (h : crs c ds ≠ 0) : runE c ds N0 = crs c ds ∧ runM c ds N0 = 0 := by
  have e : runE c ds N0 = crs c ds := if_pos h
  exact ⟨e, if_neg (by rw [e]; exact h)⟩
theorem run_arg {c : Cfg} {ds : Data} {N0 : Int} (h : crs c ds = 0) (h2 : ¬ (0 ≤ N0 ∧ N0 ≤ c.steps)) : runE c ds N0 = 1 ∧ runM c ds N0 = 0 := by
  have e : runE c ds N0 = 1 := by unfold runE; rw [if_neg (by simp [h]), if_neg h2]
  exact ⟨e, if_neg (by rw [e]; decide)⟩
theorem run_ok {c : Cfg} {ds : Data} {N : Nat} (h : crs c ds = 0) (h2 : (N : Int) ≤ c.steps) : runE c ds N = 0 ∧ runM c ds N = N + 1 := by
  have e : runE c ds N = 0 := by unfold runE; rw [if_neg (by simp [h]), if_pos (by omega)]
  exact ⟨e, by unfold runM; rw [if_pos e]; simp⟩
theorem duos_none {w : World} (f : Nat → List Int × List Int) : Duos w none 0 (upto f 0) := ⟨rfl, fun h => absurd h (by omega)⟩
theorem trn_Run_any (c : Cfg) (ds : Data) (s0 : 0 ≤ c.seed) (s1 : c.seed < 18446744073709551616) (D : Option Addr) (n dc : Nat) (w : World) (hd : Duos w D n ds) (hn : n ≤ 9223372036854775806) (N0 : Int) :
    Calls Tryz.prog 14 #[.agg #[.int .i64 c.ci, .int .i64 c.ch, .int .i64 c.co, .int .u64 c.seed, .int .i64 c.batch, .int .i64 c.steps, .int .i64 c.rate, .int .i64 c.decay, .int .i64 c.how, .int .i64 c.keep, .int .i64 c.clip], .slice D n dc, .int .i64 N0] w fun e w' => ∃ A k, e = .returned (.tuple #[.slice A (runM c ds N0) k, .int .i64 (runE c ds N0)]) ∧ Duos w' A (runM c ds N0) (upto (states c ds) (runM c ds N0)) ∧ Below w.heap.size w w' := by
  by_cases hC : crs c ds = 0
  · by_cases hN : 0 ≤ N0 ∧ N0 ≤ c.steps
    · obtain ⟨N, rfl⟩ : ∃ N : Nat, N0 = (N : Int) := ⟨N0.toNat, by omega⟩
      obtain ⟨e1, e2⟩ := run_ok (ds := ds) hC hN.2
      rw [e1, e2]
      refine (trn_Run_ok c ds hC s0 s1 D n dc w hd N hN.2).mono ?_
      rintro e w' ⟨g, k, rfl, hR, hb⟩
      exact ⟨_, k, rfl, StHeld.toDuos hR, hb⟩
    · obtain ⟨e1, e2⟩ := run_arg hC hN
      rw [e1, e2]
      refine (trn_Run_arg c ds D n dc w hd hn N0 hC hN).mono ?_
      rintro e w' ⟨rfl, hb⟩
      exact ⟨none, 0, rfl, duos_none _, hb⟩
  · obtain ⟨e1, e2⟩ := run_crs (N0 := N0) hC
    rw [e1, e2]
    refine (trn_Run_crs c ds D n dc w hd hn N0 hC).mono ?_
    rintro e w' ⟨rfl, hb⟩
    exact ⟨none, 0, rfl, duos_none _, hb⟩

set_option maxHeartbeats 2000000 in
/-- Two slices that read as the same states. -/
theorem st_EqualFunc (A B : Option Addr) (n c d : Nat) (ps : Data) (w : World) (hx : Duos w A n ps) (hy : Duos w B n ps) (hn : n ≤ 9223372036854775806) (hs : ∀ j, j < n → (duoAt ps j).1.length ≤ 40 ∧ (duoAt ps j).2.length ≤ 40) :
    Calls Tryz.prog 18 #[.slice A n c, .slice B n d, .func (.func 16) #[] #[]] w fun e w' => e = .returned (.bool true) ∧ Below w.heap.size w w' := by
  have HS := Lib.hid hs
  clear hs
  go_enter Tryz.func18, Tryz.ntmps18
  go_wp2
  go_loopw [7, 8, 9, 17] (fun _ _ _ j wr => ∃ k : Nat, k ≤ n ∧ j = .int .i64 k ∧ Below w.heap.size w wr) (fun _ _ _ j _ => n - (intOf j).toNat)
  case atStart => exact ⟨0, by omega, rfl, Below.refl _ _⟩
  case round =>
    obtain ⟨k, hk, rfl, hb⟩ := hrel
    by_cases hlt : k < n
    · obtain ⟨xb, xo, rfl, xl, hxc⟩ := (hx.below hb).cells (by omega)
      obtain ⟨yb, yo, rfl, yl, hyc⟩ := (hy.below hb).cells (by omega)
      obtain ⟨X1, m1, c1, X2, m2, c2, x0, x1, XI1, XI2, _⟩ := hxc k hlt
      obtain ⟨Y1, p1, d1, Y2, p2, d2, y0, y1, YI1, YI2, _⟩ := hyc k hlt
      obtain ⟨h1, h2⟩ := HS.out k hlt
      have g1 := XI1.len
      have g2 := XI2.len
      have k0 : (0 : Int) ≤ (k : Int) := by omega
      have k1 : (k : Int) < (n : Int) := by omega
      have b2 : Below wr.heap.size wr ((wr.alloc (.cells #[.slice X1 m1 c1, .slice X2 m2 c2] 28)).alloc (.cells #[.slice Y1 p1 d1, .slice Y2 p2 d2] 28)) := (by repeat (first | exact Below.refl _ _ | assumption | refine bel_drewN ?_ _ | refine Below.drew ?_ | (refine Below.alloc ?_ (by simp <;> omega) _) | (refine Below.setCell ?_ (by simp <;> omega) _)))
      have HC := ref_SameState (duoAt ps k) (duoAt ps k) X1 X2 Y1 Y2 m1 m2 p1 p2 c1 c2 d1 d2 ((wr.alloc (.cells #[.slice X1 m1 c1, .slice X2 m2 c2] 28)).alloc (.cells #[.slice Y1 p1 d1, .slice Y2 p2 d2] 28)) (XI1.below b2) (XI2.below b2) (YI1.below b2) (YI2.below b2) (.inl (by omega)) (.inl (by omega))
      rw [show sameS (duoAt ps k) (duoAt ps k) = true by simp [sameS]] at HC
      have HCC := Lib.hid HC
      have hbs := hb.size
      clear HC hxc hyc XI1 XI2 YI1 YI2 h1 h2 g1 g2
      go_wp2_with fail
      refine HCC.out.mono ?_
      rintro e u ⟨rfl, hbu⟩
      go_wp2
      go_roundw
      case rel => exact ⟨k + 1, by omega, by go_num, hb.trans ((b2.trans (hbu.mono b2.size)).mono hb.size)⟩
      case measure => simp [intOf]; omega
    · obtain rfl : k = n := by omega
      go_wp2
      go_ret
      exact ⟨rfl, hb⟩
end Go.Proofs.YtcfmjpcbiomdbaaGreat
