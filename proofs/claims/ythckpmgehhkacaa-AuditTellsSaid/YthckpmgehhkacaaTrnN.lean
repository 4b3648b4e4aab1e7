/- Package train: the mean of gradients: a walk. -/
import Derived.Test.YthckpmgehhkacaaTrnM
namespace Go.Proofs.Ythckpmgehhkacaa
open Go.RowKit Pl

set_option maxRecDepth 100000 in
set_option maxHeartbeats 2000000 in
theorem trn_mean (c : Cfg) (ds : Data) (hf : Fine c ds) (D : Option Addr) (n dc : Nat) (w : World) (hd : Duos w D n ds) (A : Option Addr) (ka : Nat) (wt : List Int) (hA : Ints .i64 w A c.N wt) (hka : c.N ≤ ka) (hw : okL wt = true)
    (B : Option Addr) (nb bc : Nat) (bt : List Nat) (hB : Ints .i64 w B nb (bt.map fun (n : Nat) => (n : Int))) (hbt : ∀ x ∈ bt, x < ds.length) (hnb : nb ≤ 8) :
    Calls Try.prog 136 #[.agg #[.int .i64 c.ci, .int .i64 c.ch, .int .i64 c.co, .int .u64 c.seed, .int .i64 c.batch, .int .i64 c.steps, .int .i64 c.rate, .int .i64 c.decay, .int .i64 c.how, .int .i64 c.keep, .int .i64 c.clip], .slice D n dc, .slice A c.N ka, .slice B nb bc] w (Own1 w (meanL c.ch.toNat c.ci.toNat c.co.toNat c.N c.batch wt ds bt)) := by
  have hok := hf.ok
  have HOK := Lib.hid hok
  have n1 := hok.n1
  have n40 := hok.n40
  have hba := hok.ba
  have hdl := hd.len
  have hd16 := hf.d16
  have HEX := Lib.hid (fun i (hi : i < n) => hf.ex i (by rw [hdl]; exact hi))
  have hbl : bt.length = nb := by have := hB.len; rwa [List.length_map] at this
  have HBA := Lib.hid (fun k (hk : k < nb) => (⟨natL_at bt (by rw [hbl]; exact hk), by have := hbt _ (atN_mem bt (k := k) (by rw [hbl]; exact hk)); rwa [hdl] at this⟩ : at0 (bt.map fun (n : Nat) => (n : Int)) k = (atN bt k : Int) ∧ atN bt k < n))
  have HSH := Lib.hid (shape_fine c hok A ka wt hA.len hw hka (hA.alloc (.cells #[.int .i64 c.ci, .int .i64 c.ch, .int .i64 c.co, .int .u64 c.seed, .int .i64 c.batch, .int .i64 c.steps, .int .i64 c.rate, .int .i64 c.decay, .int .i64 c.how, .int .i64 c.keep, .int .i64 c.clip] 54)))
  have HGR := Lib.hid (fun p hp => @grad_fine c hok wt hA.len hw p hp)
  have HFL := Lib.hid (fun p hp => @flat_fine c hok wt p hp)
  have HSU := Lib.hid (sumN_succ c.ch.toNat c.ci.toNat c.co.toNat c.N wt ds bt)
  have HSL := Lib.hid (sumN_length c.ch.toNat c.ci.toNat c.co.toNat c.N wt ds bt)
  have HME := Lib.hid (show meanL c.ch.toNat c.ci.toNat c.co.toNat c.N c.batch wt ds bt = upto (fun i => divF (at0 (sumN c.ch.toNat c.ci.toNat c.co.toNat c.N wt ds bt nb) i) (c.batch * 65536)) c.N by unfold meanL; rw [hbl])
  have HS0 := Lib.hid (show sumN c.ch.toNat c.ci.toNat c.co.toNat c.N wt ds bt 0 = zerosL c.N from rfl)
  have HB0 := Blk.made w 54 #[.int .i64 c.ci, .int .i64 c.ch, .int .i64 c.co, .int .u64 c.seed, .int .i64 c.batch, .int .i64 c.steps, .int .i64 c.rate, .int .i64 c.decay, .int .i64 c.how, .int .i64 c.keep, .int .i64 c.clip]
  obtain ⟨sm, hsm⟩ : ∃ sm, sm = sumN c.ch.toNat c.ci.toNat c.co.toNat c.N wt ds bt := ⟨_, rfl⟩
  rw [← hsm] at HSU HSL HME HS0
  obtain ⟨P, hP⟩ : ∃ P, P = shapeP c.ci.toNat c.ch.toNat c.co.toNat wt := ⟨_, rfl⟩
  rw [← hP] at HSH
  have HP := Lib.hid hP
  obtain ⟨N, hN⟩ : ∃ N, N = c.N := ⟨_, rfl⟩
  rw [← hN] at HSH HFL HSL HME HS0 n1 n40 hA ⊢
  have hmk := mk_zeros (N := N) (by omega)
  have hAl := hA.len
  clear hsm hP hN hf hok hd16 hdl hbl
  go_enter Try.func136, Try.ntmps136
  go_wp2_with fail
  refine HSH.out.mono ?_
  rintro e x1 ⟨A1, k1, A2, k2, B1, d1, B2, d2, rfl, O1, O2, O3, O4, hb1⟩
  have l1 := own_capT O1
  have l2 := own_capT O2
  have hbw : Below w.heap.size w x1 := Below.trans (B := w.heap.size) (by repeat (first | exact Below.refl _ _ | assumption | refine bel_drewN ?_ _ | refine Below.drew ?_ | (refine Below.alloc ?_ (by simp <;> omega) _) | (refine Below.setCell ?_ (by simp <;> omega) _))) (hb1.mono (by simp))
  have hlx : w.heap.size < x1.heap.size := by have := hb1.size; simp at this; omega
  replace HB0 := HB0.below hb1 (by simp)
  clear hb1
  have BP0 : Blk ((x1.alloc (.cells #[.int .i64 P.r1, .int .i64 P.c1, .slice A1 P.a1.length k1, .int .i64 P.r2, .int .i64 P.c2, .slice A2 P.a2.length k2, .slice B1 P.b1.length d1, .slice B2 P.b2.length d2] 82)).alloc (.cells (madeCells #[.int .i64 0] N) 3)) x1.heap.size 82 #[.int .i64 P.r1, .int .i64 P.c1, .slice A1 P.a1.length k1, .int .i64 P.r2, .int .i64 P.c2, .slice A2 P.a2.length k2, .slice B1 P.b1.length d1, .slice B2 P.b2.length d2] := (Blk.made _ _ _).alloc _
  have OZ0 : ((x1.alloc (.cells #[.int .i64 P.r1, .int .i64 P.c1, .slice A1 P.a1.length k1, .int .i64 P.r2, .int .i64 P.c2, .slice A2 P.a2.length k2, .slice B1 P.b1.length d1, .slice B2 P.b2.length d2] 82)).alloc (.cells (madeCells #[.int .i64 0] N) 3)).ownsRow (w.heap.size + 1) 3 1 (.slice (some ⟨x1.heap.size + 1, 0, none⟩) N N) N ((zerosL N).map (.int .i64)) := own_zeros (by omega) _ (by simp; omega) (by simp)
  have bz : Below x1.heap.size x1 ((x1.alloc (.cells #[.int .i64 P.r1, .int .i64 P.c1, .slice A1 P.a1.length k1, .int .i64 P.r2, .int .i64 P.c2, .slice A2 P.a2.length k2, .slice B1 P.b1.length d1, .slice B2 P.b2.length d2] 82)).alloc (.cells (madeCells #[.int .i64 0] N) 3)) := (by repeat (first | exact Below.refl _ _ | assumption | refine bel_drewN ?_ _ | refine Below.drew ?_ | (refine Below.alloc ?_ (by simp <;> omega) _) | (refine Below.setCell ?_ (by simp <;> omega) _)))
  obtain ⟨zs, hzs⟩ : ∃ zs, zs = ((x1.alloc (.cells #[.int .i64 P.r1, .int .i64 P.c1, .slice A1 P.a1.length k1, .int .i64 P.r2, .int .i64 P.c2, .slice A2 P.a2.length k2, .slice B1 P.b1.length d1, .slice B2 P.b2.length d2] 82)).alloc (.cells (madeCells #[.int .i64 0] N) 3)) := ⟨_, rfl⟩
  rw [← hzs] at BP0 OZ0 bz
  have HZS := Lib.hid hzs
  clear hzs
  have I1 := (Ints.of_own O1 rfl).below bz
  have I2 := (Ints.of_own O2 rfl).below bz
  have I3 := (Ints.of_own O3 rfl).below bz
  have I4 := (Ints.of_own O4 rfl).below bz
  replace HB0 := HB0.below bz hlx
  replace hbw := hbw.trans (bz.mono hbw.size)
  replace hd := hd.below hbw
  replace hB := hB.below hbw
  rw [← HS0.out] at OZ0
  have hc0 : w.heap.size < zs.heap.size := HB0.lt
  clear bz O1 O2 O3 O4 hA
  go_wp2
  rw [← HZS.out]
  go_loopw [11, 13, 14, 15, 16, 17, 35] (fun s _ _ _ _ _ j wr => ∃ (k : Nat) (S : Option Addr) (cs : Nat), k ≤ nb ∧ j = .int .i64 k ∧ s = .slice S N cs ∧ wr.ownsRow (w.heap.size + 1) 3 1 (.slice S N cs) N ((sm k).map (.int .i64)) ∧ Below zs.heap.size zs wr) (fun _ _ _ _ _ _ j _ => nb - (intOf j).toNat)
  case atStart => exact ⟨0, _, N, by omega, rfl, rfl, OZ0, Below.refl _ _⟩
  case round =>
    obtain ⟨k, S, cs, hk, rfl, rfl, hown, hb⟩ := hrel
    have hbs := hb.size
    by_cases hlt : k < nb
    · obtain ⟨bb, bo, hBe, hbl', hbc⟩ := (hB.below hb).cells (by omega)
      subst hBe
      obtain ⟨bat, bltn⟩ := HBA.out k hlt
      have g0 := hbc k hlt
      rw [bat] at g0
      have HK := Lib.hid (HSU.out k)
      obtain ⟨i, hi⟩ : ∃ i, i = atN bt k := ⟨_, rfl⟩
      rw [← hi] at g0 HK bltn
      obtain ⟨db, dO, hDe, hdb, hdc⟩ := (hd.below hb).cells (by omega)
      subst hDe
      obtain ⟨X, ni, xc, T, no, tc, g1, g2, ix, it, z1, z2, z3, z4⟩ := hdc i bltn
      have HX := Lib.hid (HEX.out i bltn)
      obtain ⟨p, hp⟩ : ∃ p, p = duoAt ds i := ⟨_, rfl⟩
      rw [← hp] at HK HX ix it
      obtain ⟨G, hG⟩ : ∃ G, G = gradW c.ch.toNat c.ci.toNat c.co.toNat wt p := ⟨_, rfl⟩
      have HG := Lib.hid hG
      have BP := BP0.below hb (by have := BP0.lt; omega)
      have K1 := I1.below hb
      have K2 := I2.below hb
      have K3 := I3.below hb
      have K4 := I4.below hb
      obtain ⟨p0, p1, p2, p3, p4, p5, p6, p7⟩ := BP.pup
      have HGC := Lib.hid (fun W (h : Below wr.heap.size wr W) => HGR.out p HX.out HP.out (k1 := k1) (k2 := k2) (d1 := d1) (d2 := d2) (xc := xc) (tc := tc) (K1.below h) (K2.below h) (K3.below h) (K4.below h) l1 l2 (ix.below h) (it.below h))
      rw [← hG] at HGC
      have k0 : (0 : Int) ≤ (k : Int) := by omega
      have k1' : (k : Int) < (nb : Int) := by omega
      have i0 : (0 : Int) ≤ (i : Int) := by omega
      have i1' : (i : Int) < (n : Int) := by omega
      clear hbc hdc bat hi hp hG K1 K2 K3 K4 ix it z1 z2 z3 z4
      have hlm : x1.heap.size < wr.heap.size := BP.lt
      go_upto_region 6 with fail
      obtain ⟨wa, rfl⟩ : ∃ wa : World, wa = wr := ⟨_, rfl⟩
      go_cut [14, 15] (fun o e wx => ∃ m, o = .pointer (some ⟨m, 0, none⟩) ∧ e = .int .i64 0 ∧ PupBox wx m G ∧ Below wa.heap.size wa wx)
      case first =>
        go_region_law (first
          | (go_simp; go_at_call 51; (refine (HGC.out _ (by first | exact (Below.refl _ _).drew | exact ((Below.refl _ _).drew).alloc (Nat.le_refl _) _ | exact ((Below.refl _ _).alloc (Nat.le_refl _) _).drew)).mono ?_); rintro e u1 ⟨G1, q1, G2, q2, G3, q3, G4, q4, rfl, P1, P2, P3, P4, hbG⟩; first | (have hz4 : Blk u1 wa.heap.size 82 #[.int .i64 0, .int .i64 0, .slice none 0 0, .int .i64 0, .int .i64 0, .slice none 0 0, .slice none 0 0, .slice none 0 0] := (Blk.made (wa.drew) 82 #[.int .i64 0, .int .i64 0, .slice none 0 0, .int .i64 0, .int .i64 0, .slice none 0 0, .slice none 0 0, .slice none 0 0]).below hbG (by simp); have hcl := hz4.pup; have hfr := hz4.pupz) | skip)
          | fail)
        all_goals
          go_wp2
          go_meet
          case rel => first
            | (have hL := pup_laid P1 P2 P3 P4; have hbL := (bel_trans ((Below.refl wa.heap.size wa).drew) hbG).alloc (bel_trans ((Below.refl wa.heap.size wa).drew) hbG).size (.cells #[.int .i64 G.r1, .int .i64 G.c1, .slice G1 G.a1.length q1, .int .i64 G.r2, .int .i64 G.c2, .slice G2 G.a2.length q2, .slice G3 G.b1.length q3, .slice G4 G.b2.length q4] 82); with_reducible exact ⟨_, rfl, rfl, hL, hbL⟩)
            | (have hS := pup_stored hz4 (by simp) P1 P2 P3 P4; have hbS := but_to (Below.trans (B := wa.heap.size) (((Below.refl wa.heap.size wa).drew).alloc (Nat.le_refl _) (.cells #[.int .i64 0, .int .i64 0, .slice none 0 0, .int .i64 0, .int .i64 0, .slice none 0 0, .slice none 0 0, .slice none 0 0] 82)) (hbG.mono (by simp))) hS.2 (Nat.le_refl _) (by have := hz4.lt; omega); with_reducible exact ⟨_, rfl, rfl, hS.1, hbS⟩)
            | trace_state
      case rest =>
        obtain ⟨m, rfl, rfl, ⟨C1, r1, C2, r2, C3, r3, C4, r4, BG, J1, J2, J3, J4⟩, hbc⟩ := hcut
        obtain ⟨y, rfl⟩ : ∃ y : World, y = wc := ⟨_, rfl⟩
        obtain ⟨s0, s1, s2, s3, s4, s5, s6, s7⟩ := BG.pup
        have HF := Lib.hid (HFL.out p HX.out HG.out (k1 := r1) (k2 := r2) (d1 := r3) (d2 := r4) J1 J2 J3 J4)
        have OS := own_below hown hbc
        clear BG J1 J2 J3 J4 hown p0 p1 p2 p3 p4 p5 p6 p7 g0 g1 g2 BP
        go_wp2_with fail
        refine HF.out.mono ?_
        rintro e u2 ⟨Lx, lc, rfl, IL, hb2⟩
        have OS2 := own_below OS hb2
        go_wp2_with fail
        refine (sum_fine N (by omega) (xs := sm k) (Ints.of_own OS2 (HSL.out k)) IL).mono ?_
        rintro e u3 ⟨S', c', rfl, OS3, hb3⟩
        rw [← HK.out] at OS3
        go_wp2
        go_roundw
        case rel => exact ⟨k + 1, S', c', by omega, by go_num, rfl, own_base OS3 (by have := hb2.size; have := hbc.size; omega), bel_trans (bel_trans (bel_trans hb hbc) hb2) hb3⟩
        case measure => simp [intOf]; omega
    · obtain rfl : k = nb := by omega
      obtain ⟨g, hS, hge, hgl⟩ : ∃ g, S = some ⟨g, 0, none⟩ ∧ w.heap.size + 1 ≤ g ∧ g < wr.heap.size := by
        obtain ⟨g, cp, hv, h1, h2⟩ := hown.form (by omega)
        injection hv with a _ _
        exact ⟨g, a, h1, h2⟩
      subst hS
      have HY := Lib.hid hown
      obtain ⟨b1, b2⟩ := hba
      have hb0 := hb
      obtain ⟨Y, hY⟩ : ∃ Y, Y = sm k := ⟨_, rfl⟩
      have YL := Lib.hid (show Y.length = N by rw [hY]; exact HSL.out k)
      have hin : wr.ownsRow (w.heap.size + 1) 3 1 (.slice (some ⟨g, 0, none⟩) N cs) N ((fillL (fun i => divF (at0 Y i) (c.batch * 65536)) (at0 Y) N 0).map (.int .i64)) := by
        rw [fillL_zero, ← YL.out, upto_at0, YL.out, hY]
        exact hown
      rw [← hY] at HME
      have hbx := hbw.trans (hb.mono hbw.size)
      have hc1 : Blk wr w.heap.size 54 #[.int .i64 c.ci, .int .i64 c.ch, .int .i64 c.co, .int .u64 c.seed, .int .i64 c.batch, .int .i64 c.steps, .int .i64 c.rate, .int .i64 c.decay, .int .i64 c.how, .int .i64 c.keep, .int .i64 c.clip] := HB0.below hb hc0
      clear hown hY hb BP0 I1 I2 I3 I4 hd hB l1 l2
      obtain ⟨wa, hwa⟩ : ∃ wa : World, wa = wr := ⟨_, rfl⟩
      go_wp2
      rw [← hwa]
      rw [← hwa] at hin hbx hc1 hgl
      clear hwa
      go_loopw [18, 62] (fun _ j ws => ∃ k : Nat, k ≤ N ∧ j = .int .i64 k ∧ ws.ownsRow (w.heap.size + 1) 3 1 (.slice (some ⟨g, 0, none⟩) N cs) N ((fillL (fun i => divF (at0 Y i) (c.batch * 65536)) (at0 Y) N k).map (.int .i64)) ∧ Below (w.heap.size + 1) wa ws) (fun _ j _ => N - (intOf j).toNat)
      case atStart => exact ⟨0, by omega, rfl, hin, Below.refl _ _⟩
      case round =>
        clear hin
        obtain ⟨k, hk, rfl, hown, hb⟩ := hrel
        obtain ⟨ws, rfl⟩ : ∃ ws : World, ws = wr := ⟨_, rfl⟩
        by_cases hl2 : k < N
        · have q1 := hown.cellAt k (by omega)
          rw [fillL_at _ _ hl2] at q1
          have q2 := hown.frozenAt k
          have q4 : ws.cell? ⟨w.heap.size, 4, none⟩ = some (.int .i64 c.batch) := (hc1.below hb (by omega)).cell 4
          have F := Lib.hid (fillL_set (fun i => divF (at0 Y i) (c.batch * 65536)) (at0 Y) N k)
          have HD := Lib.hid (fun W => fix_Div_ok (at0 Y k) (c.batch * 65536) (clamp_pos (by omega)) W)
          have HWB := Lib.hid (show IntKind.i64.wrap (c.batch * 65536) = c.batch * 65536 from wrap_small _ (by omega) (by omega))
          obtain ⟨v, hv⟩ : ∃ v, v = divF (at0 Y k) (c.batch * 65536) := ⟨_, rfl⟩
          have HV := Lib.hid hv
          rw [← hv] at HD
          obtain ⟨u, hu⟩ : ∃ u, u = at0 Y k := ⟨_, rfl⟩
          rw [← hu] at HD q1
          have k0 : (0 : Int) ≤ (k : Int) := by omega
          have k1 : (k : Int) < (N : Int) := by omega
          have hgl2 := (hown.lt g rfl).2
          clear hv hu
          go_wp2
          go_region_law (first
            | (go_simp; go_at_call 108; try rw [HWB.out]; (refine (HD.out _).mono ?_); rintro e w' ⟨rfl, km, rfl⟩)
            | fail)
          all_goals
            go_wp2
            have hown3 := (hown.stored k (.int .i64 v)).1
            rw [← List.map_set, HV.out, F.out] at hown3
            have hb3 := hb.setCell (p := ⟨g, k, none⟩) hge (.int .i64 v)
            go_roundw
            case rel => exact ⟨k + 1, by omega, by go_num, by rw [HV.out]; exact own_drewN hown3 _, bel_drewN hb3 _⟩
            case measure => simp [intOf]; omega
        · obtain rfl : N = k := by omega
          rw [fillL_all] at hown
          go_wp2
          go_ret
          exact own_one (by rw [HME.out, upto_length]) (by rw [HME.out]; exact own_base hown (by omega)) (hbx.trans (hb.mono (by omega)))
end Go.Proofs.Ythckpmgehhkacaa
