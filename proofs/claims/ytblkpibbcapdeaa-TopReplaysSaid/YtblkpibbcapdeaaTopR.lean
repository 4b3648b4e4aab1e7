/- The law TopReplays holds of the given program for every input. No condition. -/
import Derived.Test.YtblkpibbcapdeaaTold
import Derived.Test.YtblkpibbcapdeaaTopF0
import Derived.Test.YtblkpibbcapdeaaConv
import Derived.Test.YtblkpibbcapdeaaAudF
import Derived.Test.YtblkpibbcapdeaaArgR
import Derived.Test.YtblkpibbcapdeaaGoP
namespace Go.Proofs.Ytblkpibbcapdeaa
open Go.ChangeShapes Go.WideShapes Go.ChangeAt Go.RowKit Go.Sort Pl

theorem replays_two {c : Cfg} {ds : Data} (hok : c.Ok) {s : List Int × List Int} (hfit : fits c s = true) {M : Nat} {x : Int} {r : Rec} (hh : holdsB c ds s M x r = true) (hl : likeR r (recC c ds M) = false) (hx : x = rootS (states c ds M)) (A1 A2 B1 B2 : Option Addr) (c1 c2 d1 d2 : Nat) (W : World)
    (i1 : Ints .i64 W A1 c.N s.1) (i2 : Ints .i64 W A2 c.N s.2) (j1 : Ints .i64 W B1 c.N (states c ds M).1) (j2 : Ints .i64 W B2 c.N (states c ds M).2) :
    Calls Try.prog 14 #[.agg #[.slice A1 c.N c1, .slice A2 c.N c2], .agg #[.slice B1 c.N d1, .slice B2 c.N d2]] W fun e w' => e = .returned (.bool true) ∧ Below W.heap.size W w' := by
  have hne := replays_other hh hl
  have hft := fits_states c ds M
  obtain ⟨l1, l2, oa, ob⟩ := fits_iff.1 hfit
  obtain ⟨m1, m2, pa, pb⟩ := fits_iff.1 hft
  have n1 := hok.n1
  have n40 := hok.n40
  obtain ⟨h0, h1⟩ := rootS_hi (states c ds M)
  refine top_twoRoots A1 A2 B1 B2 c.N c.N c.N c.N c1 c2 d1 d2 (c.N + c.N) _ _ _ _ W i1 i2 j1 j2 rfl rfl (by omega) (by omega) ?_ ?_ (cat_ne (by rw [l1, m1]) hne) ?_
  · unfold okL at oa ob ⊢
    rw [List.all_append, oa, ob]
    rfl
  · unfold okL at pa pb ⊢
    rw [List.all_append, pa, pb]
    rfl
  · rw [← rootS_I hok hfit, ← rootS_I hok hft, ← hx]
    exact replays_root hh (by omega) (by omega)

set_option maxRecDepth 100000 in
set_option maxHeartbeats 8000000 in
theorem topReplays_walk (c : Cfg) (s0 : 0 ≤ c.seed) (s1 : c.seed < 18446744073709551616) (D : Option Addr) (n dc : Nat) (ds : Data) (w : World) (hd : Duos w D n ds) (hn : n ≤ 9223372036854775806) (N0 : Int) (s : List Int × List Int) (A1 A2 : Option Addr) (n1 n2 u1 u2 : Nat) (i1 : Ints .i64 w A1 n1 s.1) (i2 : Ints .i64 w A2 n2 s.2) (z1 : n1 ≤ u1) (z2 : n1 ≤ 9223372036854775807) (z3 : n2 ≤ 9223372036854775807)
    (RA : Option Addr) (rm rk : Nat) (r : Rec) (iR : Ints .i64 w RA rm r.batch) :
    Calls Try.prog 3 #[.agg #[.int .i64 c.ci, .int .i64 c.ch, .int .i64 c.co, .int .u64 c.seed, .int .i64 c.batch, .int .i64 c.steps, .int .i64 c.rate, .int .i64 c.decay, .int .i64 c.how, .int .i64 c.keep, .int .i64 c.clip], .slice D n dc, .int .i64 N0, .agg #[.slice A1 n1 u1, .slice A2 n2 u2], .agg #[.int .i64 r.step, .slice RA rm rk, .int .i64 r.rate, .int .u64 r.root, .int .u64 r.chain]] w fun e w' => e = .returned (.bool true) ∧ Below w.heap.size w w' := by
  have HD := Lib.hid (fun W (h : Below w.heap.size w W) => hd.below h)
  have HCO := Lib.hid (fun W (h : Below w.heap.size w W) => ref_Course c D n dc ds W (hd.below h) hn)
  have b0 : Below w.heap.size w (((w.alloc (.cells #[.int .i64 c.ci, .int .i64 c.ch, .int .i64 c.co, .int .u64 c.seed, .int .i64 c.batch, .int .i64 c.steps, .int .i64 c.rate, .int .i64 c.decay, .int .i64 c.how, .int .i64 c.keep, .int .i64 c.clip] 24)).alloc (.cells #[.slice A1 n1 u1, .slice A2 n2 u2] 28)).alloc (.cells #[.int .i64 r.step, .slice RA rm rk, .int .i64 r.rate, .int .u64 r.root, .int .u64 r.chain] 30)) := (by repeat (first | exact Below.refl _ _ | assumption | refine bel_drewN ?_ _ | refine Below.drew ?_ | (refine Below.alloc ?_ (by simp <;> omega) _) | (refine Below.setCell ?_ (by simp <;> omega) _)))
  have HB0 := ((Blk.made w 24 #[.int .i64 c.ci, .int .i64 c.ch, .int .i64 c.co, .int .u64 c.seed, .int .i64 c.batch, .int .i64 c.steps, .int .i64 c.rate, .int .i64 c.decay, .int .i64 c.how, .int .i64 c.keep, .int .i64 c.clip]).alloc (.cells #[.slice A1 n1 u1, .slice A2 n2 u2] 28)).alloc (.cells #[.int .i64 r.step, .slice RA rm rk, .int .i64 r.rate, .int .u64 r.root, .int .u64 r.chain] 30)
  have HS0 := (Blk.made' (w.alloc (.cells #[.int .i64 c.ci, .int .i64 c.ch, .int .i64 c.co, .int .u64 c.seed, .int .i64 c.batch, .int .i64 c.steps, .int .i64 c.rate, .int .i64 c.decay, .int .i64 c.how, .int .i64 c.keep, .int .i64 c.clip] 24)) 28 #[.slice A1 n1 u1, .slice A2 n2 u2] (g := w.heap.size + 1) (by simp)).alloc (.cells #[.int .i64 r.step, .slice RA rm rk, .int .i64 r.rate, .int .u64 r.root, .int .u64 r.chain] 30)
  have HR0 := Blk.made' ((w.alloc (.cells #[.int .i64 c.ci, .int .i64 c.ch, .int .i64 c.co, .int .u64 c.seed, .int .i64 c.batch, .int .i64 c.steps, .int .i64 c.rate, .int .i64 c.decay, .int .i64 c.how, .int .i64 c.keep, .int .i64 c.clip] 24)).alloc (.cells #[.slice A1 n1 u1, .slice A2 n2 u2] 28)) 30 #[.int .i64 r.step, .slice RA rm rk, .int .i64 r.rate, .int .u64 r.root, .int .u64 r.chain] (g := w.heap.size + 2) (by simp)
  go_enter Try.func3, Try.ntmps3
  go_wp2_with fail
  refine (top_said _).mono ?_
  rintro e w1 ⟨rfl, hb1⟩
  replace HB0 := HB0.below hb1 HB0.lt
  replace HS0 := HS0.below hb1 HS0.lt
  replace HR0 := HR0.below hb1 HR0.lt
  have hw1 := b0.trans (hb1.mono b0.size)
  clear hb1 b0
  obtain ⟨d0, d1, d2, d3, d4, d5, d6, d7, d8, d9, da⟩ := HB0.cfg
  go_wp2_with fail
  refine (HCO.out _ hw1).mono ?_
  rintro e w2 ⟨rfl, hb2⟩
  have hw2 := hw1.trans (hb2.mono hw1.size)
  replace HB0 := HB0.below hb2 HB0.lt
  replace HS0 := HS0.below hb2 HS0.lt
  replace HR0 := HR0.below hb2 HR0.lt
  clear d0 d1 d2 d3 d4 d5 d6 d7 d8 d9 da hb2 hw1
  obtain ⟨d0, d1, d2, d3, d4, d5, d6, d7, d8, d9, da⟩ := HB0.cfg
  by_cases hC : crs c ds = 0
  · have hf := fine hC
    have HMK := Lib.hid (fun W (h : Below w.heap.size w W) (N : Nat) (hN : (N : Int) ≤ c.steps) => jrn_Make_ok c ds hC s0 s1 D n dc W (HD.out W h) N hN)
    have HWH := Lib.hid (fun W (h : Below w.heap.size w W) (A : Option Addr) (N ac : Nat) (f : Nat → Rec) (hx : RecsR W A N (upto f N)) (hN : (N : Int) ≤ c.steps) => aud_Whole c ds hC s0 s1 D n dc W (HD.out W h) A N ac f hx hN)
    have HRU := Lib.hid (fun W (h : Below w.heap.size w W) (N : Nat) (hN : (N : Int) ≤ c.steps) => trn_Run_ok c ds hC s0 s1 D n dc W (HD.out W h) N hN)
    have HRT := Lib.hid (fun (t : List Int × List Int) B1 B2 q1 q2 W j1 j2 => root_fine c hf.ok t B1 B2 q1 q2 W j1 j2)
    have hst := hf.ok.st
    have hba := hf.ok.ba
    have HR := Lib.hid (fun (x M : Int) h1 h2 W => rest_of x M h1 h2 W)
    have HSH := Lib.hid (fun K => show (recC c ds K).batch.length ≤ 9223372036854775806 from by
      show ((batI c ds K).map _).length ≤ _
      rw [List.length_map, batI_length]
      omega)
    have HRC := Lib.hid (fun k => show (recC c ds k).root = rootS (states c ds (k + 1)) from rfl)
    have HL1 := Lib.hid (fun k => (fits_iff.1 (fits_states c ds k)).1)
    have HL2 := Lib.hid (fun k => (fits_iff.1 (fits_states c ds k)).2.1)
    have HCF := Lib.hid hC
    have HFF := Lib.hid hf
    rw [hC]
    clear hC HCO hf
    obtain ⟨rc, hrc⟩ : ∃ rc, rc = recC c ds := ⟨_, rfl⟩
    obtain ⟨st, hst'⟩ : ∃ st, st = states c ds := ⟨_, rfl⟩
    rw [← hrc] at HMK HWH HSH HRC
    rw [← hst'] at HRU HL1 HL2 HRC
    have HRCE := Lib.hid hrc
    have HSTE := Lib.hid hst'
    clear hrc hst'
    go_upto_region 5 with fail
    go_cut [2] (fun v wx => ∃ r : Nat, 1 ≤ r ∧ (r : Int) ≤ c.steps ∧ r ≤ 5 ∧ v = .int .i64 r ∧ wx = w2)
    case first =>
      go_wp2_with fail
      all_goals
        refine (HR.out _ _ (by omega) (by omega) _).mono ?_
        rintro e w' ⟨r, hr, rfl, rfl⟩
        have er : IntKind.i64.wrap (1 + (r : Int)) = ((r + 1 : Nat) : Int) := by rw [wrap_small _ (by omega) (by omega)]; omega
        go_wp2
        go_meet
        case rel => exact ⟨r + 1, by omega, by omega, by omega, by go_num, rfl⟩
    case rest =>
      obtain ⟨N, N1, hN, hN5, rfl, rfl⟩ := hcut
      go_wp2_with fail
      refine (HMK.out _ hw2 N hN).mono ?_
      rintro e w3 ⟨A', k', rfl, hL, hb3⟩
      have hw3 := hw2.trans (hb3.mono hw2.size)
      replace HB0 := HB0.below hb3 HB0.lt
      replace HS0 := HS0.below hb3 HS0.lt
      replace HR0 := HR0.below hb3 HR0.lt
      have hca : N ≤ k' := by
        obtain ⟨A2, c2, e2, h1, _⟩ := Held.slice hL
        cases e2
        exact h1
      have HRA := (RecHeld.recs hL).weak
      obtain ⟨ga, rfl⟩ : ∃ g, A' = some ⟨g, 0, none⟩ := by
        obtain ⟨g, c', hv, _⟩ := hL.form (by omega)
        injection hv with a _ _
        exact ⟨g, a⟩
      clear d0 d1 d2 d3 d4 d5 d6 d7 d8 d9 da hb3 hL hw2
      obtain ⟨d0, d1, d2, d3, d4, d5, d6, d7, d8, d9, da⟩ := HB0.cfg
      go_wp2_with fail
      refine (HWH.out _ hw3 _ N k' rc HRA hN).mono ?_
      rintro e w4 ⟨k, hk, rfl, hb4⟩
      obtain rfl : N = k := by
        obtain ⟨h1, _, h3⟩ := hk
        rcases Nat.lt_or_ge k N with h | h
        · have := h3 h
          rw [sameR_self] at this
          cases this
        · omega
      have hw4 := hw3.trans (hb4.mono hw3.size)
      replace HB0 := HB0.below hb4 HB0.lt
      replace HS0 := HS0.below hb4 HS0.lt
      replace HR0 := HR0.below hb4 HR0.lt
      replace HRA := HRA.below hb4
      clear d0 d1 d2 d3 d4 d5 d6 d7 d8 d9 da hb4 hw3 hk
      obtain ⟨d0, d1, d2, d3, d4, d5, d6, d7, d8, d9, da⟩ := HB0.cfg
      go_wp2_with fail
      refine (HRU.out _ hw4 N hN).mono ?_
      rintro e w5 ⟨gs, sk, rfl, hSH, hb5⟩
      have hw5 := hw4.trans (hb5.mono hw4.size)
      replace HB0 := HB0.below hb5 HB0.lt
      replace HS0 := HS0.below hb5 HS0.lt
      replace HR0 := HR0.below hb5 HR0.lt
      replace HRA := HRA.below hb5
      clear d0 d1 d2 d3 d4 d5 d6 d7 d8 d9 da hb5 hw4
      obtain ⟨M, rfl⟩ : ∃ M, N = M + 1 := ⟨N - 1, by omega⟩
      obtain ⟨X1, p1, X2, p2, m0, m1, J1, J2, _, lX⟩ := StHeld.at' hSH (j := M + 1) (by omega) (HL1.out (M + 1)) (HL2.out (M + 1))
      obtain ⟨Y1, q1, Y2, q2, m2, m3, L1, L2, _, lY⟩ := StHeld.at' hSH (j := M) (by omega) (HL1.out M) (HL2.out M)
      have k0 : (0 : Int) ≤ ((M + 1 : Nat) : Int) := by omega
      have k1 : ((M + 1 : Nat) : Int) < ((M + 1 + 1 : Nat) : Int) := by omega
      have k2 : (0 : Int) ≤ (M : Int) := by omega
      have k3 : (M : Int) < ((M + 1 + 1 : Nat) : Int) := by omega
      have k4 : (M : Int) < ((M + 1 : Nat) : Int) := by omega
      have k5 : IntKind.i64.wrap (((M + 1 : Nat) : Int) - 1) = (M : Int) := by rw [wrap_small _ (by omega) (by omega)]; omega
      clear hSH
      go_wp2_with fail
      refine (HRT.out (st (M + 1)) X1 X2 p1 p2 _ J1 J2).mono ?_
      rintro e w6 ⟨rfl, hb6⟩
      replace m2 := (hb6.cell (p := ⟨gs, M * 2, none⟩) lY).trans m2
      replace m3 := (hb6.cell (p := ⟨gs, M * 2 + 1, none⟩) lY).trans m3
      replace L1 := L1.below hb6
      replace L2 := L2.below hb6
      have lY6 : gs < w6.heap.size := Nat.lt_of_lt_of_le lY hb6.size
      go_wp2_with fail
      refine (HRT.out (st M) Y1 Y2 q1 q2 _ L1 L2).mono ?_
      rintro e w7 ⟨rfl, hb7⟩
      replace m2 := (hb7.cell (p := ⟨gs, M * 2, none⟩) lY6).trans m2
      replace m3 := (hb7.cell (p := ⟨gs, M * 2 + 1, none⟩) lY6).trans m3
      have lY7 : gs < w7.heap.size := Nat.lt_of_lt_of_le lY6 hb7.size
      have hb57 := bel_trans hb6 hb7
      replace L1 := L1.below hb7
      replace L2 := L2.below hb7
      have hw7 := hw5.trans (hb57.mono hw5.size)
      replace HB0 := HB0.below hb57 HB0.lt
      replace HS0 := HS0.below hb57 HS0.lt
      replace HR0 := HR0.below hb57 HR0.lt
      replace HRA := HRA.below hb57
      obtain ⟨d0, d1, d2, d3, d4, d5, d6, d7, d8, d9, da⟩ := HB0.cfg
      obtain ⟨⟨e0, e1⟩, _⟩ := HS0.two
      obtain ⟨⟨f0, f1, f2, f3, f4⟩, _⟩ := HR0.rec5
      obtain ⟨XL, xk, ⟨x0, x1, x2, x3, x4⟩, XI, _, _, xlt⟩ := HRA.at0 (show M < M + 1 by omega)
      clear J1 J2 m0 m1 lX lY hb6 hb7
      have HX3 := Lib.hid x3
      rw [HRC.out] at x3
      have HXM := Lib.hid (rootS_hi (st M))
      obtain ⟨ra, hra⟩ : ∃ x, x = rootS (st (M + 1)) := ⟨_, rfl⟩
      obtain ⟨rb, hrb⟩ : ∃ x, x = rootS (st M) := ⟨_, rfl⟩
      rw [← hra] at x3 ⊢
      rw [← hrb] at HXM ⊢
      have HRB := Lib.hid hrb
      clear hra hrb
      go_wp2_with fail
      have hnf : fits c s = false → nextE c ds s M = 5 := fun h => nextE_fit HCF.out h
      by_cases hfit : fits c s = true
      · obtain ⟨l1, l2, l3, l4⟩ := fits_iff.1 hfit
        obtain rfl : n1 = c.N := by rw [← i1.len, l1]
        obtain rfl : n2 = c.N := by rw [← i2.len, l2]
        have HH := spot_Holds_ok c ds HCF.out s0 s1 D n dc w7 (HD.out _ hw7) s hfit A1 A2 u1 u2 (i1.below hw7) (i2.below hw7) z1 M (by omega) rb HXM.out.1 RA rm rk r (iR.below hw7)
        obtain ⟨hB, hhB⟩ : ∃ b, b = holdsB c ds s M rb r := ⟨_, rfl⟩
        rw [← hhB] at HH
        refine HH.mono ?_
        rintro e w8 ⟨rfl, hb8⟩
        have hw8 := hw7.trans (hb8.mono hw7.size)
        cases hB
        · clear HH hhB HX3 HRA HS0 HR0 HB0 L1 L2 m2 m3 x0 x1 x2 x3 x4 f0 f1 f2 f3 f4 e0 e1 d0 d1 d2 d3 d4 d5 d6 d7 d8 d9 da hw7
          go_upto_region 16 with fail
          refine wp_region_quiet_below (by kernel_rfl) (by kernel_rfl) ?_
          iterate 15 (go_big_quiet_step (fail))
          refine wpQuiet_nil ?_
          intro _ hw'
          obtain ⟨⟨dq, osq⟩, hw''⟩ := hw'
          have hu := below_regrown w8 dq osq
          subst hw''
          go_wp2
          go_ret
          exact ⟨rfl, hw8.trans (hu.mono hw8.size)⟩
        · have HHB := Lib.hid hhB
          replace HS0 := HS0.below hb8 HS0.lt
          replace HR0 := HR0.below hb8 HR0.lt
          replace HRA := HRA.below hb8
          replace L1 := L1.below hb8
          replace L2 := L2.below hb8
          replace m2 := (hb8.cell (p := ⟨gs, M * 2, none⟩) lY7).trans m2
          replace m3 := (hb8.cell (p := ⟨gs, M * 2 + 1, none⟩) lY7).trans m3
          clear HH hhB HX3 HB0 x0 x1 x2 x3 x4 f0 f1 f2 f3 f4 e0 e1 d0 d1 d2 d3 d4 d5 d6 d7 d8 d9 da hw7 XI xlt
          obtain ⟨⟨e0, e1⟩, _⟩ := HS0.two
          obtain ⟨⟨f0, f1, f2, f3, f4⟩, _⟩ := HR0.rec5
          obtain ⟨XL, xk, ⟨x0, x1, x2, x3, x4⟩, XI, _, _, xlt⟩ := HRA.at0 (show M < M + 1 by omega)
          have hLK := fun W (h : Below w8.heap.size w8 W) => ref_Like r (rc M) RA XL _ rk _ xk W (iR.below (hw8.trans (h.mono hw8.size))) (XI.below h) (.inr (HSH.out M))
          have HTW := Lib.hid (fun (hl : likeR r (rc M) = false) W (h : Below w8.heap.size w8 W) => replays_two HFF.out.ok hfit HHB.out.symm (by rw [← HRCE.out]; exact hl) (by rw [← HSTE.out]; exact HRB.out) A1 A2 Y1 Y2 u1 u2 q1 q2 W (i1.below (hw8.trans (h.mono hw8.size))) (i2.below (hw8.trans (h.mono hw8.size))) (by rw [← HSTE.out]; exact L1.below h) (by rw [← HSTE.out]; exact L2.below h))
          have HSS := Lib.hid (fun (hl : likeR r (rc M) = false) W (h : Below w8.heap.size w8 W) => by
            have h2 := ref_SameState s (st M) A1 A2 Y1 Y2 c.N c.N c.N c.N u1 u2 q1 q2 W (i1.below (hw8.trans (h.mono hw8.size))) (i2.below (hw8.trans (h.mono hw8.size))) (L1.below h) (L2.below h) (.inl (by have := HFF.out.ok.n40; omega)) (.inl (by have := HFF.out.ok.n40; omega))
            rwa [sameS_ne (show s ≠ st M from by rw [HSTE.out]; exact replays_other HHB.out.symm (by rw [← HRCE.out]; exact hl))] at h2)
          clear HMK HWH HRU HRT HRC HL1 HL2 HCF HFF HD HXM HRB HSTE HRCE HHB i1 i2 iR L1 L2 XI HRA HS0 HR0 hnf hfit HR hd
          obtain ⟨ra', hra'⟩ : ∃ ra, ra = rc M := ⟨_, rfl⟩
          rw [← hra'] at x0 x1 x2 x3 x4 hLK HTW HSS
          obtain ⟨lb, hlb⟩ : ∃ lb, lb = likeR r ra' := ⟨_, rfl⟩
          rw [← hlb] at hLK HTW HSS
          clear hra' hlb HSH
          have K_e0 := cell_regrown e0
          have K_e1 := cell_regrown e1
          have K_f0 := cell_regrown f0
          have K_f1 := cell_regrown f1
          have K_f2 := cell_regrown f2
          have K_f3 := cell_regrown f3
          have K_f4 := cell_regrown f4
          have K_x0 := cell_regrown x0
          have K_x1 := cell_regrown x1
          have K_x2 := cell_regrown x2
          have K_x3 := cell_regrown x3
          have K_x4 := cell_regrown x4
          have HC8 := Lib.hid (⟨e0, e1, m2, m3⟩ : _ ∧ _ ∧ _ ∧ _)
          have cL := Lib.hid (fun d os => Calls.regrown_of (hLK (grow (redrawn w8 d) os) (below_regrown w8 d os)))
          clear hLK x0 x1 x2 x3 x4 e0 e1 f0 f1 f2 f3 f4 m2 m3
          go_upto_region 16 with fail
          refine wp_region_quiet_below (by kernel_rfl) (by kernel_rfl) ?_
          iterate 15 (go_big_quiet_step (with_reducible exact cL.out _ _))
          refine wpQuiet_nil ?_
          intro _ hw'
          obtain ⟨⟨dq, osq⟩, hw''⟩ := hw'
          have hu := below_regrown w8 dq osq
          subst hw''
          cases lb
          · obtain ⟨z, hz⟩ : ∃ z, z = grow (redrawn w8 dq) osq := ⟨_, rfl⟩
            rw [← hz] at hu ⊢
            have hwz := hw8.trans (hu.mono hw8.size)
            have hTW := fun W (h : Below z.heap.size z W) => HTW.out rfl W (hu.trans (h.mono hu.size))
            have hSS := fun W (h : Below z.heap.size z W) => HSS.out rfl W (hu.trans (h.mono hu.size))
            obtain ⟨e0, e1, m2, m3⟩ := HC8.out
            have J_e0 := cell_regrown ((hu.cell (block_lt_of_cell e0)).trans e0)
            have J_e1 := cell_regrown ((hu.cell (block_lt_of_cell e1)).trans e1)
            have J_m2 := cell_regrown ((hu.cell (block_lt_of_cell m2)).trans m2)
            have J_m3 := cell_regrown ((hu.cell (block_lt_of_cell m3)).trans m3)
            have cT := Lib.hid (fun d os => Calls.regrown_of (hTW (grow (redrawn z d) os) (below_regrown z d os)))
            have cS := Lib.hid (fun d os => Calls.regrown_of (hSS (grow (redrawn z d) os) (below_regrown z d os)))
            clear hTW hSS HTW HSS HC8 e0 e1 m2 m3 K_e0 K_e1 K_f0 K_f1 K_f2 K_f3 K_f4 K_x0 K_x1 K_x2 K_x3 K_x4 cL hz hu hw8 hb8
            go_upto_region 18 with fail
            refine wp_region_quiet_below (by kernel_rfl) (by kernel_rfl) ?_
            iterate 18 (go_big_quiet_step (first | with_reducible exact cS.out _ _ | with_reducible exact cT.out _ _))
            refine wpQuiet_nil ?_
            intro _ hw'
            obtain ⟨⟨dr, osr⟩, hw''⟩ := hw'
            have hu2 := below_regrown z dr osr
            subst hw''
            go_wp2
            go_ret
            exact ⟨rfl, hwz.trans (hu2.mono hwz.size)⟩
          · go_wp2
            go_ret
            exact ⟨rfl, hw8.trans (hu.mono hw8.size)⟩
      · have hfit' : fits c s = false := by simpa using hfit
        refine (spot_Holds_no c ds D n dc w7 (HD.out _ hw7) hn s A1 A2 n1 n2 u1 u2 (i1.below hw7) (i2.below hw7) (by omega) (by omega) M rb RA rm rk r (by rw [hnf hfit']; decide)).mono ?_
        rintro e w8 ⟨rfl, hb8⟩
        have hw8 := hw7.trans (hb8.mono hw7.size)
        rw [hnf hfit']
        clear hnf hfit hfit' HX3 HRA HS0 HR0 HB0 L1 L2 m2 m3 x0 x1 x2 x3 x4 f0 f1 f2 f3 f4 e0 e1 d0 d1 d2 d3 d4 d5 d6 d7 d8 d9 da hw7
        go_upto_region 16 with fail
        refine wp_region_quiet_below (by kernel_rfl) (by kernel_rfl) ?_
        iterate 15 (go_big_quiet_step (fail))
        refine wpQuiet_nil ?_
        intro _ hw'
        obtain ⟨⟨dq, osq⟩, hw''⟩ := hw'
        have hu := below_regrown w8 dq osq
        subst hw''
        go_wp2
        go_ret
        exact ⟨rfl, hw8.trans (hu.mono hw8.size)⟩
  · have t : (crs c ds != 0) = true := by rw [bne_iff_ne]; exact hC
    obtain ⟨x, hx⟩ : ∃ x, x = crs c ds := ⟨_, rfl⟩
    rw [← hx] at t ⊢
    clear hC hx HCO
    go_wp2
    go_ret
    exact ⟨rfl, hw2⟩

set_option maxRecDepth 100000 in
theorem topReplays_lifted (os : Os) (started : os.Started) (H : Type) (enc : TypeId × Value → H) :
    ReturnsInHanded {} Try.checked os 3 .any (Rows.topReplaysSpec.pre6 enc Try.prog Try.f3 Rows.topReplaysRow.domain false) (Rows.topReplaysSpec.post enc Try.prog Try.f3 false true false false) := by
  refine lift_law (fn := Try.f3) started (by kernel_rfl) Try.func3
    (ChangeSpec.witness6 (enc := enc) (C := Try.checked) false ⟨#[], #[.agg #[.int .i64 0, .int .i64 0, .int .i64 0, .int .u64 0, .int .i64 0, .int .i64 0, .int .i64 0, .int .i64 0, .int .i64 0, .int .i64 0, .int .i64 0], .slice none 0 0, .int .i64 0, .agg #[.slice none 0 0, .slice none 0 0], .agg #[.int .i64 0, .slice none 0 0, .int .i64 0, .int .u64 0, .int .u64 0]], []⟩ 8 (by kernel_rfl) (by kernel_rfl) (by kernel_rfl) (by kernel_rfl)) (by kernel_rfl) rfl Try.underlying4 rfl ?_ ?_
  · intro ds h
    rw [Try.params3] at h
    match ds, h with
    | [d0, d1, d2, d3, d4], _ => rfl
  · intro W args ds ps hA hlt hval hsz
    rw [Try.params3] at hA hval hsz
    obtain ⟨v0, vs0, d0, ds0, p0, q0, hargs, rfl, rfl, H0, T0⟩ := trodAll_cons hA
    obtain ⟨v1, vs1, d1, ds1, p1, q1, rfl, rfl, rfl, H1, T1⟩ := trodAll_cons T0
    obtain ⟨v2, vs2, d2, ds2, p2, q2, rfl, rfl, rfl, H2, T2⟩ := trodAll_cons T1
    obtain ⟨v4, vs4, d4, ds4, p4, q4, rfl, rfl, rfl, H4, T4⟩ := trodAll_cons T2
    obtain ⟨v5, vs5, d5, ds5, p5, q5, rfl, rfl, rfl, H5, T5⟩ := trodAll_cons T4
    obtain ⟨rfl, rfl, rfl⟩ := trodAll_nil T5
    obtain rfl : args = #[v0, v1, v2, v4, v5] := by cases args; simp_all
    obtain ⟨b0, hv0⟩ := hval 0 24 v0 rfl rfl
    obtain ⟨b1, hv1⟩ := hval 1 25 v1 rfl rfl
    obtain ⟨b2, hv2⟩ := hval 2 3 v2 rfl rfl
    obtain ⟨b4, hv4⟩ := hval 3 28 v4 rfl rfl
    obtain ⟨b5, hv5⟩ := hval 4 30 v5 rfl rfl
    obtain ⟨c, rfl, cw⟩ := arg_cfg hv0 H0
    obtain ⟨D, n, dc, ds, rfl, hd, hn⟩ := arg_data (j := 1) (fun _ => rfl) hv1 H1 hsz rfl rfl
    obtain ⟨n0, rfl, _⟩ := arg_int hv2 H2
    obtain ⟨A1, n1, k1, wt, A2, n2, k2, mv, rfl, ⟨i1, l1, m1, _⟩, ⟨i2, l2, m2, _⟩⟩ := arg_state (fun _ => rfl) hv4 H4
    obtain ⟨y, B, m', k', rfl, hJ, _⟩ := arg_rec2 (fun _ => rfl) hv5 H5
    have hs := wf_u64 cw.2.2.2.1
    exact topReplays_walk c hs.1 (by omega) D n dc ds W hd hn n0 (wt, mv) A1 A2 n1 n2 k1 k2 i1 i2 l1 (by unfold maxLen at *; omega) (by unfold maxLen at *; omega) B m' k' y hJ
theorem TopReplays_holds : Rows.TopReplaysSaid :=
  OpenClaim.holds_of_wide 3 Try.f3 rfl rfl rfl rfl rfl rfl rfl ⟨rfl, rfl, rfl, rfl, rfl⟩ rfl rfl rfl rfl rfl (by kernel_rfl) Try.func3 (by kernel_rfl)
    (of_decide_eq_true (by kernel_rfl)) (by unfold Func.isWrapper; first | (rw [if_pos (by decide +kernel)]; kernel_rfl) | (rw [if_neg (by decide +kernel)]; exact ⟨rfl, rfl⟩))
    (fun os started H enc _ => topReplays_lifted os started H enc)

end Go.Proofs.Ytblkpibbcapdeaa
