/- The law TopFirst holds of the given program for every input. No condition. -/
import Derived.Test.YtcfmjpcbiomdbaaSaidW
import Derived.Test.YtcfmjpcbiomdbaaSpotJ
import Derived.Test.YtcfmjpcbiomdbaaArgR
import Derived.Test.YtcfmjpcbiomdbaaCloneR
import Derived.BigQuiet
namespace Go.Proofs.Ytcfmjpcbiomdbaa
open Go.ChangeShapes Go.WideShapes Go.ChangeAt Go.RowKit Go.Sort Pl

theorem RecHeld.plain {m : Option Nat} {B : Nat} {f : Nat → Rec} {k : Nat} {A : Option Addr} {c : Nat} {w : World} (h : RecHeld m B f k (.slice A k c) w) : ∀ ad, A = some ad → ∃ b off, ad = ⟨b, off, none⟩ := by
  obtain ⟨vs, ho, _⟩ := h
  intro ad e
  subst e
  rcases ho.2 with ⟨hv, _⟩ | ⟨g, cap, cur, hv, _⟩
  · cases hv
  · injection hv with a _ _
    injection a with a
    exact ⟨g, 0, a⟩
theorem RecsR.pre {w : World} {A : Option Addr} {n k : Nat} {f : Nat → Rec} (h : RecsR w A n (upto f n)) (hk : k ≤ n) : RecsR w A k (upto f k) :=
  ⟨upto_length _ _, fun h0 => by
    obtain ⟨b, off, e, hb, hc⟩ := h.cells (by omega)
    refine ⟨b, off, e, hb, fun j hj => ?_⟩
    have h1 := hc j (by omega)
    rw [recAt_upto _ (by omega)] at h1 ⊢
    exact h1⟩
theorem RecsR.single {w : World} {b off n k : Nat} {f : Nat → Rec} (h : RecsR w (some ⟨b, off, none⟩) n (upto f n)) (hk : k < n) : RecsR w (some ⟨b, off + k * 5, none⟩) 1 [f k] := by
  obtain ⟨b', off', L, kk, e, hb, ha, hI, h1, h2⟩ := h.at hk
  cases e
  rw [recAt_upto _ hk] at ha hI h1
  exact recs_one hb ha hI h1 h2
theorem RecsR.at0 {w : World} {b n k : Nat} {f : Nat → Rec} (h : RecsR w (some ⟨b, 0, none⟩) n (upto f n)) (hk : k < n) : ∃ L q, RecAt w b (k * 5) L q (f k) ∧ Ints .i64 w L (f k).batch.length (f k).batch ∧ (f k).batch.length ≤ q ∧ q ≤ maxLen ∧ b < w.heap.size := by
  obtain ⟨b', off', L, kk, e, hb, ha, hI, h1, h2⟩ := h.at hk
  cases e
  rw [recAt_upto _ hk, Nat.zero_add] at ha
  rw [recAt_upto _ hk] at hI h1
  exact ⟨L, kk, ha, hI, h1, h2, hb⟩
theorem like_recN (c : Cfg) (ds : Data) (x : Rec) (k : Nat) : likeR x (recN c ds (states c ds k) k) = likeR x (recC c ds k) := by
  have e1 : (recN c ds (states c ds k) k).step = (recC c ds k).step := rfl
  have e2 : (recN c ds (states c ds k) k).batch = (recC c ds k).batch := rfl
  have e3 : (recN c ds (states c ds k) k).rate = (recC c ds k).rate := rfl
  have e4 : (recN c ds (states c ds k) k).root = (recC c ds k).root := by
    show rootS (nextS c ds (states c ds k) k) = rootS (states c ds (k + 1))
    rw [states_succ]
  unfold likeR
  rw [e1, e2, e3, e4]
theorem judge_first (c : Cfg) (ds : Data) (x : Rec) (k : Nat) : judgeN x (recC c ds k) (recN c ds (states c ds k) k) = if likeR x (recC c ds k) then 3 else 2 := by
  unfold judgeN
  rw [like_recN, like_recN, likeR_self]
  cases likeR x (recC c ds k) <;> rfl

set_option maxRecDepth 100000 in
set_option maxHeartbeats 8000000 in
theorem topFirst_walk (c : Cfg) (s0 : 0 ≤ c.seed) (s1 : c.seed < 18446744073709551616) (D : Option Addr) (n dc : Nat) (ds : Data) (w : World) (hd : Duos w D n ds) (hn : n ≤ 9223372036854775806) (N0 : Int) (A : Option Addr) (m ac : Nat) (rs : List Rec) (hx : RecsR w A m rs) (hmc : m ≤ ac) :
    Calls Try.prog 4 #[.agg #[.int .i64 c.ci, .int .i64 c.ch, .int .i64 c.co, .int .u64 c.seed, .int .i64 c.batch, .int .i64 c.steps, .int .i64 c.rate, .int .i64 c.decay, .int .i64 c.how, .int .i64 c.keep, .int .i64 c.clip], .slice D n dc, .int .i64 N0, .slice A m ac] w fun e w' => e = .returned (.bool true) ∧ Below w.heap.size w w' := by
  have HD := Lib.hid (fun W (h : Below w.heap.size w W) => hd.below h)
  have HCO := Lib.hid (fun W (h : Below w.heap.size w W) => ref_Course c D n dc ds W (hd.below h) hn)
  have HB0 := Blk.made w 24 #[.int .i64 c.ci, .int .i64 c.ch, .int .i64 c.co, .int .u64 c.seed, .int .i64 c.batch, .int .i64 c.steps, .int .i64 c.rate, .int .i64 c.decay, .int .i64 c.how, .int .i64 c.keep, .int .i64 c.clip]
  have b0 : Below w.heap.size w (w.alloc (.cells #[.int .i64 c.ci, .int .i64 c.ch, .int .i64 c.co, .int .u64 c.seed, .int .i64 c.batch, .int .i64 c.steps, .int .i64 c.rate, .int .i64 c.decay, .int .i64 c.how, .int .i64 c.keep, .int .i64 c.clip] 24)) := (by repeat (first | exact Below.refl _ _ | assumption | refine bel_drewN ?_ _ | refine Below.drew ?_ | (refine Below.alloc ?_ (by simp <;> omega) _) | (refine Below.setCell ?_ (by simp <;> omega) _)))
  go_enter Try.func4, Try.ntmps4
  go_wp2_with fail
  refine (top_said _).mono ?_
  rintro e w1 ⟨rfl, hb1⟩
  replace HB0 := HB0.below hb1 HB0.lt
  have hw1 := b0.trans (hb1.mono b0.size)
  clear hb1 b0
  obtain ⟨d0, d1, d2, d3, d4, d5, d6, d7, d8, d9, da⟩ := HB0.cfg
  go_wp2_with fail
  refine (HCO.out _ hw1).mono ?_
  rintro e w2 ⟨rfl, hb2⟩
  have hw2 := hw1.trans (hb2.mono hw1.size)
  replace HB0 := HB0.below hb2 HB0.lt
  clear d0 d1 d2 d3 d4 d5 d6 d7 d8 d9 da hb2 hw1
  obtain ⟨d0, d1, d2, d3, d4, d5, d6, d7, d8, d9, da⟩ := HB0.cfg
  by_cases hC : crs c ds = 0
  · have hf := fine hC
    have HMK := Lib.hid (fun W (h : Below w.heap.size w W) (N : Nat) (hN : (N : Int) ≤ c.steps) => jrn_Make_ok c ds hC s0 s1 D n dc W (HD.out W h) N hN)
    have HWH := Lib.hid (fun W (h : Below w.heap.size w W) (A : Option Addr) (N ac : Nat) (f : Nat → Rec) (hx : RecsR W A N (upto f N)) (hN : (N : Int) ≤ c.steps) => aud_Whole c ds hC s0 s1 D n dc W (HD.out W h) A N ac f hx hN)
    have HPR := Lib.hid (fun W (h : Below w.heap.size w W) (k : Nat) (hk : (k : Int) < c.steps) => spot_Prove c ds hC s0 s1 D n dc W (HD.out W h) k hk)
    have HJU := Lib.hid (fun W (h : Below w.heap.size w W) (j : Nat) A1 A2 k1 k2 i1 i2 hk1 hj L1 L2 m1 q1 m2 q2 x hI1 hI2 => aud_Judge_ok c ds hC s0 s1 D n dc W (HD.out W h) (states c ds j) (fits_states c ds j) A1 A2 k1 k2 i1 i2 hk1 j hj L1 L2 m1 q1 m2 q2 x (recC c ds j) hI1 hI2)
    have HJN := Lib.hid (judge_first c ds)
    have hst := hf.ok.st
    have hba := hf.ok.ba
    have HR := Lib.hid (fun (x M : Int) h1 h2 W => rest_of x M h1 h2 W)
    have HSH := Lib.hid (fun K => show (recC c ds K).batch.length ≤ 9223372036854775806 from by
      show ((batI c ds K).map _).length ≤ _
      rw [List.length_map, batI_length]
      omega)
    rw [hC]
    clear hC HCO hf
    obtain ⟨jn, hjn⟩ : ∃ jn, jn = fun x j => judgeN x (recC c ds j) (recN c ds (states c ds j) j) := ⟨_, rfl⟩
    have HJE := Lib.hid (fun x j => show judgeN x (recC c ds j) (recN c ds (states c ds j) j) = jn x j from by rw [hjn])
    clear hjn
    obtain ⟨rc, hrc⟩ : ∃ rc, rc = recC c ds := ⟨_, rfl⟩
    obtain ⟨st, hst'⟩ : ∃ st, st = states c ds := ⟨_, rfl⟩
    rw [← hrc] at HMK HWH HSH HJU HJN HJE
    rw [← hst'] at HPR HJU HJN HJE
    clear hrc hst'
    go_upto_region 5 with fail
    go_cut [2] (fun v wx => ∃ r : Nat, (r : Int) ≤ c.steps ∧ r ≤ 5 ∧ v = .int .i64 r ∧ wx = w2)
    case first =>
      go_wp2_with fail
      all_goals
        refine (HR.out _ _ (by omega) (by omega) _).mono ?_
        rintro e w' ⟨r, hr, rfl, rfl⟩
        go_wp2
        go_meet
        case rel => exact ⟨r, by omega, by omega, rfl, rfl⟩
    case rest =>
      obtain ⟨N, hN, hN5, rfl, rfl⟩ := hcut
      go_wp2_with fail
      refine (HMK.out _ hw2 N hN).mono ?_
      rintro e w3 ⟨A', k', rfl, hL, hb3⟩
      have hw3 := hw2.trans (hb3.mono hw2.size)
      replace HB0 := HB0.below hb3 HB0.lt
      have hca : N ≤ k' := by
        obtain ⟨A2, c2, e2, h1, _⟩ := Held.slice hL
        cases e2
        exact h1
      have HRA := (RecHeld.recs hL).weak
      have HAF := Lib.hid (fun (h : 0 < N) => show ∃ g, A' = some ⟨g, 0, none⟩ from by
        obtain ⟨g, c', hv, _⟩ := hL.form h
        injection hv with a _ _
        exact ⟨g, a⟩)
      have HCL := Lib.hid (rec_Clone A' N k' (upto rc N) w3 HRA (by omega) hL.plain)
      clear d0 d1 d2 d3 d4 d5 d6 d7 d8 d9 da hb3 hL hw2
      go_wp2_with fail
      refine HCL.out.mono ?_
      rintro e w4 ⟨B, bc, rfl, hbc1, hbc2, hBR, hBG, hb4⟩
      have hw4 := hw3.trans (hb4.mono hw3.size)
      go_upto_region 10 with fail
      go_cut [46, 47, 48] (fun v l j wx => ∃ M : Nat, M ≤ m ∧ M ≤ N ∧ v = .slice A M ac ∧ l = .int .i64 M ∧ j = .int .i64 0 ∧ wx = w4)
      case first =>
        by_cases hNm : N < m
        · have q1 : (N : Int) < (m : Int) := by omega
          have q2 : (N : Int) ≤ (ac : Int) := by omega
          go_wp2
          go_meet
          case rel => exact ⟨N, by omega, by omega, by simp, rfl, rfl, rfl⟩
        · have q1 : ¬ (N : Int) < (m : Int) := by omega
          have q2 : (m : Int) ≤ (ac : Int) := by omega
          go_wp2
          go_meet
          case rel => exact ⟨m, by omega, by omega, by simp, rfl, rfl, rfl⟩
      case rest =>
        obtain ⟨M, hMm, hMN, rfl, rfl, rfl, rfl⟩ := hcut
        obtain ⟨y, rfl⟩ : ∃ y : World, y = wc := ⟨_, rfl⟩
        have HF0 : overF rc (recAt rs) 0 = rc := rfl
        go_wp2
        go_loopw [12, 13, 48] (fun _ _ j wr => ∃ q : Nat, q ≤ M ∧ j = .int .i64 q ∧ RecsR wr B N (upto (overF rc (recAt rs) q) N) ∧ (0 < N → ∃ g, B = some ⟨g, 0, none⟩ ∧ w3.heap.size ≤ g ∧ RunR wr g N (overF rc (recAt rs) q)) ∧ Below w3.heap.size w3 wr) (fun _ _ j _ => M - (intOf j).toNat)
        case atStart => exact ⟨0, by omega, rfl, hBR, fun h => by
          obtain ⟨g, e, h1, h2⟩ := hBG h
          exact ⟨g, e, h1, h2.congr (fun j hj => recAt_upto rc hj)⟩, hb4⟩
        case round =>
          clear hBR hBG
          obtain ⟨q, hq, rfl, hR, hG, hb⟩ := hrel
          by_cases hlt : q < M
          · obtain ⟨g, rfl, hg3, hRun⟩ := hG (by omega)
            have hbw := hw3.trans (hb.mono hw3.size)
            obtain ⟨xb, xo, XL, xk, rfl, xlt, ⟨x0, x1, x2, x3, x4⟩, XI, xl1, xl2⟩ := hx.at (show q < m by omega)
            replace x0 := (hbw.cell (p := ⟨xb, xo + q * 5, none⟩) xlt).trans x0
            replace x1 := (hbw.cell (p := ⟨xb, xo + q * 5 + 1, none⟩) xlt).trans x1
            replace x2 := (hbw.cell (p := ⟨xb, xo + q * 5 + 2, none⟩) xlt).trans x2
            replace x3 := (hbw.cell (p := ⟨xb, xo + q * 5 + 3, none⟩) xlt).trans x3
            replace x4 := (hbw.cell (p := ⟨xb, xo + q * 5 + 4, none⟩) xlt).trans x4
            have XIw := (XI.below hbw).alloc (.cells #[.int .i64 (recAt rs q).step, .slice XL (recAt rs q).batch.length xk, .int .i64 (recAt rs q).rate, .int .u64 (recAt rs q).root, .int .u64 (recAt rs q).chain] 30)
            have hXb : ∀ b off, XL = some ⟨b, off, none⟩ → 0 < (recAt rs q).batch.length → b ≠ g := fun b off e hp => by
              obtain ⟨b', off', e', hlt', _⟩ := XI.cells hp
              rw [e] at e'
              cases e'
              have := hw3.size
              omega
            have HOS := Lib.hid (fun (h : (recAt rs q).step = -1) => overF_skip (f := rc) h)
            have HOP := Lib.hid (fun (h : (recAt rs q).step ≠ -1) => overF_put (f := rc) h)
            obtain ⟨r, hr⟩ : ∃ r, r = recAt rs q := ⟨_, rfl⟩
            rw [← hr] at x0 x1 x2 x3 x4 XI xl1 HOS HOP XIw hXb
            clear hr
            have k0 : (0 : Int) ≤ (q : Int) := by omega
            have k1 : (q : Int) < (M : Int) := by omega
            have k2 : (q : Int) < (N : Int) := by omega
            have bX : Below wr.heap.size wr (wr.alloc (.cells #[.int .i64 r.step, .slice XL r.batch.length xk, .int .i64 r.rate, .int .u64 r.root, .int .u64 r.chain] 30)) := (Below.refl _ _).alloc (Nat.le_refl _) _
            by_cases hs : r.step = -1
            · have t : (r.step != -1) = false := by rw [hs]; rfl
              have HS := Lib.hid (HOS.out hs)
              clear hs
              go_wp2
              go_roundw
              case rel =>
                refine ⟨q + 1, by omega, by go_num, ?_, fun _ => ⟨g, rfl, hg3, ?_⟩, hb.trans (bX.mono hb.size)⟩
                · rw [HS.out]; exact hR.below bX
                · rw [HS.out]; exact hRun.below bX
              case measure => simp [intOf]; omega
            · have t : (r.step != -1) = true := by rw [bne_iff_ne]; exact hs
              have HS := Lib.hid (HOP.out hs)
              clear hs
              have BB := Blk.made wr 30 #[.int .i64 r.step, .slice XL r.batch.length xk, .int .i64 r.rate, .int .u64 r.root, .int .u64 r.chain]
              have hRunX := hRun.below bX
              have hbX := hb.trans (bX.mono hb.size)
              obtain ⟨W1, hW1⟩ : ∃ W1, W1 = wr.alloc (.cells #[.int .i64 r.step, .slice XL r.batch.length xk, .int .i64 r.rate, .int .u64 r.root, .int .u64 r.chain] 30) := ⟨_, rfl⟩
              rw [← hW1] at XIw BB hRunX hbX
              have HW1 := Lib.hid hW1
              clear hW1 bX
              obtain ⟨⟨c0, c1, c2, c3, c4⟩, _⟩ := BB.rec5
              obtain ⟨hRun2, hBt⟩ := hRunX.put (show q < N by omega) XIw hXb xl1 xl2
              have hb2 := but_to hbX hBt hg3 hbX.size
              obtain ⟨L', kk, ⟨y0, y1, y2, y3, y4⟩, _⟩ := hRunX.at (show q < N by omega)
              have z0 : W1.frozen? ⟨g, q * 5, none⟩ = false := hRunX.writes q 0
              have z1 := hRunX.writes q 1
              have z2 := hRunX.writes q 2
              have z3 := hRunX.writes q 3
              have z4 := hRunX.writes q 4
              have hgw := hRun.lt
              have hne1 : wr.heap.size ≠ g := by omega
              have hne2 : g ≠ wr.heap.size := by omega
              clear XIw hXb
              go_upto_region 14 with fail
              rw [← HW1.out]
              go_wp2
              go_roundw
              case rel =>
                refine ⟨q + 1, by omega, by go_num, ?_, fun _ => ⟨g, rfl, hg3, ?_⟩, hb2⟩
                · rw [HS.out]; exact hRun2.recs
                · rw [HS.out]; exact hRun2
              case measure => simp [intOf]; omega
          · obtain rfl : q = M := by omega
            have hw5 := hw3.trans (hb.mono hw3.size)
            obtain ⟨fb, hfb⟩ : ∃ fb, fb = overF rc (recAt rs) q := ⟨_, rfl⟩
            rw [← hfb] at hR hG
            clear hfb hlt
            have HB5 := HB0.below hb HB0.lt
            have HA5 := HRA.below hb
            clear hb4 hb
            obtain ⟨z, rfl⟩ : ∃ z : World, z = wr := ⟨_, rfl⟩
            obtain ⟨d0, d1, d2, d3, d4, d5, d6, d7, d8, d9, da⟩ := HB5.cfg
            go_wp2_with fail
            refine (HWH.out _ hw5 B N bc fb hR hN).mono ?_
            rintro e w6 ⟨k, ⟨hk1, hk2, hk3⟩, rfl, hb6⟩
            have hw6 := hw5.trans (hb6.mono hw5.size)
            have HB6 := HB5.below hb6 HB5.lt
            have HA6 := HA5.below hb6
            have HR6 := hR.below hb6
            clear d0 d1 d2 d3 d4 d5 d6 d7 d8 d9 da HB5 HA5 hR hb6
            have HS2 := Lib.hid hk2
            have HS3 := Lib.hid hk3
            clear hk2 hk3
            have kp0 : (0 : Int) ≤ (k : Int) := by omega
            have kp1 : ¬ (k : Int) < 0 := by omega
            have kp2 : ¬ (N : Int) < (k : Int) := by omega
            have kd1 : decide ((k : Int) < 0) = false := decide_eq_false kp1
            have kd2 : decide ((N : Int) < (k : Int)) = false := decide_eq_false kp2
            have kd4 : decide (N < k) = false := decide_eq_false (by omega)
            have kp3 : (k : Int) ≤ (bc : Int) := by omega
            have kp4 : (k : Int) ≤ (k' : Int) := by omega
            have kp5 : (k : Int) ≤ (N : Int) := by omega
            have hS1 := fun W (h : Below w6.heap.size w6 W) d d' => ref_SameRecords B A' k k d d' (upto fb k) (upto rc k) W ((HR6.pre hk1).below h) ((HA6.pre hk1).below h) (by omega) (fun j hj => .inr (by rw [recAt_upto _ hj]; exact HSH.out j))
            rw [sameB_true rfl (fun j hj => by rw [recAt_upto _ hj, recAt_upto _ hj]; exact HS2.out j hj)] at hS1
            obtain ⟨y, rfl⟩ : ∃ y : World, y = w6 := ⟨_, rfl⟩
            have cL1 := Lib.hid (fun d d' e os => Calls.regrown_of (hS1 (grow (redrawn y e) os) (below_regrown y e os) d d'))
            clear hS1
            by_cases hkN : k < N
            · obtain ⟨g, rfl, _, _⟩ := hG (by omega)
              obtain ⟨ga, rfl⟩ := HAF.out (by omega)
              have kq0 : (k : Int) < (N : Int) := by omega
              have kd3 : decide ((k : Int) < (N : Int)) = true := decide_eq_true kq0
              have kd5 : decide (k < N) = true := decide_eq_true hkN
              have kq1 : (k : Int) + 1 ≤ (bc : Int) := by omega
              have kq2 : (k : Int) + 1 ≤ (k' : Int) := by omega
              have kq3 : ¬ bc = k := by omega
              have kq4 : ¬ k' = k := by omega
              have kq5 : (k : Int) ≤ (k : Int) + 1 := by omega
              have kq6 : ((k : Int) == (N : Int)) = false := by rw [beq_eq_false_iff_ne]; omega
              have eK : IntKind.i64.wrap ((k : Int) + 1) = (k : Int) + 1 := wrap_small _ (by omega) (by omega)
              obtain ⟨XL, xk, ⟨x0, x1, x2, x3, x4⟩, XI, xl1, xl2, xlt⟩ := HR6.at0 hkN
              obtain ⟨YL, yk, ⟨y0, y1, y2, y3, y4⟩, YI, yl1, yl2, ylt⟩ := HA6.at0 hkN
              have hS2 := fun W (h : Below y.heap.size y W) d d' => ref_SameRecords (some ⟨g, k * 5, none⟩) (some ⟨ga, k * 5, none⟩) 1 1 d d' [fb k] [rc k] W ((recs_one (g := g) xlt ⟨x0, x1, x2, x3, x4⟩ XI xl1 xl2).below h) ((recs_one (g := ga) ylt ⟨y0, y1, y2, y3, y4⟩ YI yl1 yl2).below h) (by omega) (fun j hj => .inr (by have h0 : j = 0 := Nat.lt_one_iff.1 hj; subst h0; exact HSH.out k))
              rw [sameB_one, HS3.out hkN] at hS2
              have cL2 := Lib.hid (fun d d' e os => Calls.regrown_of (hS2 (grow (redrawn y e) os) (below_regrown y e os) d d'))
              clear hS2
              go_upto_region 17 with fail
              refine wp_region_quiet_below (by kernel_rfl) (by kernel_rfl) ?_
              iterate 39 (go_big_quiet_step (first | (with_reducible exact cL1.out _ _ _ _) | (with_reducible exact cL2.out _ _ _ _)))
              refine wpQuiet_nil ?_
              intro _ hw'
              obtain ⟨⟨dq, osq⟩, hw''⟩ := hw'
              have hu : Below y.heap.size y (grow (redrawn y dq) osq) := below_regrown y dq osq
              subst hw''
              obtain ⟨v, hv⟩ : ∃ v, v = grow (redrawn y dq) osq := ⟨_, rfl⟩
              rw [← hv] at hu ⊢
              clear hv cL1 cL2
              have hwv := hw6.trans (hu.mono hw6.size)
              have HBv := HB6.below hu HB6.lt
              obtain ⟨d0, d1, d2, d3, d4, d5, d6, d7, d8, d9, da⟩ := HBv.cfg
              have hks : (k : Int) < c.steps := by omega
              go_wp2_with fail
              refine (HPR.out v hwv k hks).mono ?_
              rintro e w7 ⟨A1, k1, A2, k2, rfl, i1, i2, l1, hb7⟩
              have hw7 := hwv.trans (hb7.mono hwv.size)
              have h67 := hu.trans (hb7.mono hu.size)
              have bA : Below w7.heap.size w7 (w7.alloc (.cells #[.slice A1 c.N k1, .slice A2 c.N k2] 28)) := (Below.refl _ _).alloc (Nat.le_refl _) _
              have BS := Blk.made w7 28 #[.slice A1 c.N k1, .slice A2 c.N k2]
              have HB7 := HBv.below (hb7.trans (bA.mono hb7.size)) HBv.lt
              have h6A := h67.trans (bA.mono h67.size)
              have hwA := hw7.trans (bA.mono hw7.size)
              replace i1 := i1.below bA
              replace i2 := i2.below bA
              obtain ⟨W8, hW8⟩ : ∃ W8, W8 = w7.alloc (.cells #[.slice A1 c.N k1, .slice A2 c.N k2] 28) := ⟨_, rfl⟩
              rw [← hW8] at BS HB7 h6A hwA i1 i2
              have HW8 := Lib.hid hW8
              clear hW8 bA d0 d1 d2 d3 d4 d5 d6 d7 d8 d9 da HBv hb7 hu
              obtain ⟨e0, e1, e2, e3, e4, e5, e6, e7, e8, e9, ea⟩ := HB7.cfg
              obtain ⟨⟨t0, t1⟩, _⟩ := BS.two
              replace x0 := (h6A.cell (p := ⟨g, k * 5, none⟩) xlt).trans x0
              replace x1 := (h6A.cell (p := ⟨g, k * 5 + 1, none⟩) xlt).trans x1
              replace x2 := (h6A.cell (p := ⟨g, k * 5 + 2, none⟩) xlt).trans x2
              replace x3 := (h6A.cell (p := ⟨g, k * 5 + 3, none⟩) xlt).trans x3
              replace x4 := (h6A.cell (p := ⟨g, k * 5 + 4, none⟩) xlt).trans x4
              replace y0 := (h6A.cell (p := ⟨ga, k * 5, none⟩) ylt).trans y0
              replace y1 := (h6A.cell (p := ⟨ga, k * 5 + 1, none⟩) ylt).trans y1
              replace y2 := (h6A.cell (p := ⟨ga, k * 5 + 2, none⟩) ylt).trans y2
              replace y3 := (h6A.cell (p := ⟨ga, k * 5 + 3, none⟩) ylt).trans y3
              replace y4 := (h6A.cell (p := ⟨ga, k * 5 + 4, none⟩) ylt).trans y4
              have XI8 := XI.below h6A
              have YI8 := YI.below h6A
              have hJ := fun W (h : Below W8.heap.size W8 W) => HJU.out W (hwA.trans (h.mono hwA.size)) k A1 A2 k1 k2 (i1.below h) (i2.below h) l1 hks XL YL _ xk _ yk (fb k) (XI8.below h) (YI8.below h)
              simp only [HJE.out] at hJ
              have hLK := fun W (h : Below W8.heap.size W8 W) => ref_Like (fb k) (rc k) XL YL _ xk _ yk W (XI8.below h) (YI8.below h) (.inr (HSH.out k))
              have hjn := (HJE.out (fb k) k).symm.trans (HJN.out (fb k) k)
              clear XI YI XI8 YI8 i1 i2 BS HB7 HJU HJE HJN
              obtain ⟨ra, hra⟩ : ∃ ra, ra = fb k := ⟨_, rfl⟩
              obtain ⟨rb, hrb⟩ : ∃ rb, rb = rc k := ⟨_, rfl⟩
              rw [← hra] at x0 x1 x2 x3 x4 hJ hLK hjn
              rw [← hrb] at y0 y1 y2 y3 y4 hJ hLK hjn
              obtain ⟨jv, hjv⟩ : ∃ jv, jv = jn ra k := ⟨_, rfl⟩
              rw [← hjv] at hJ hjn
              clear hra hrb hjv
              have xlt8 := Nat.lt_of_lt_of_le xlt h6A.size
              have ylt8 := Nat.lt_of_lt_of_le ylt h6A.size
              have K_e0 := cell_regrown e0
              have K_e1 := cell_regrown e1
              have K_e2 := cell_regrown e2
              have K_e3 := cell_regrown e3
              have K_e4 := cell_regrown e4
              have K_e5 := cell_regrown e5
              have K_e6 := cell_regrown e6
              have K_e7 := cell_regrown e7
              have K_e8 := cell_regrown e8
              have K_e9 := cell_regrown e9
              have K_ea := cell_regrown ea
              have K_t0 := cell_regrown t0
              have K_t1 := cell_regrown t1
              have K_x0 := cell_regrown x0
              have K_x1 := cell_regrown x1
              have K_x2 := cell_regrown x2
              have K_x3 := cell_regrown x3
              have K_x4 := cell_regrown x4
              have K_y0 := cell_regrown y0
              have K_y1 := cell_regrown y1
              have K_y2 := cell_regrown y2
              have K_y3 := cell_regrown y3
              have K_y4 := cell_regrown y4
              cases hl : likeR ra rb
              · have F2 : jv = 2 := by rw [hjn, hl]; rfl
                rw [hl] at hLK
                subst F2
                have cJ := Lib.hid (fun d os => Calls.regrown_of (hJ (grow (redrawn W8 d) os) (below_regrown W8 d os)))
                clear hJ hl hjn
                go_upto_region 22 with fail
                rw [← HW8.out]
                clear e0 e1 e2 e3 e4 e5 e6 e7 e8 e9 ea t0 t1
                refine wp_region_quiet_below (by kernel_rfl) (by kernel_rfl) ?_
                iterate 18 (go_big_quiet_step (with_reducible exact cJ.out _ _))
                refine wpQuiet_nil ?_
                intro _ hw'
                obtain ⟨⟨dr, osr⟩, hw''⟩ := hw'
                have hu2 : Below W8.heap.size W8 (grow (redrawn W8 dr) osr) := below_regrown W8 dr osr
                subst hw''
                obtain ⟨v2, hv2⟩ : ∃ v, v = grow (redrawn W8 dr) osr := ⟨_, rfl⟩
                rw [← hv2] at hu2 ⊢
                clear hv2 cJ K_e0 K_e1 K_e2 K_e3 K_e4 K_e5 K_e6 K_e7 K_e8 K_e9 K_ea K_t0 K_t1 K_x0 K_x1 K_x2 K_x3 K_x4 K_y0 K_y1 K_y2 K_y3 K_y4
                have M_x0 := cell_regrown ((hu2.cell (p := ⟨g, k * 5, none⟩) xlt8).trans x0)
                have M_x1 := cell_regrown ((hu2.cell (p := ⟨g, k * 5 + 1, none⟩) xlt8).trans x1)
                have M_x2 := cell_regrown ((hu2.cell (p := ⟨g, k * 5 + 2, none⟩) xlt8).trans x2)
                have M_x3 := cell_regrown ((hu2.cell (p := ⟨g, k * 5 + 3, none⟩) xlt8).trans x3)
                have M_x4 := cell_regrown ((hu2.cell (p := ⟨g, k * 5 + 4, none⟩) xlt8).trans x4)
                have M_y0 := cell_regrown ((hu2.cell (p := ⟨ga, k * 5, none⟩) ylt8).trans y0)
                have M_y1 := cell_regrown ((hu2.cell (p := ⟨ga, k * 5 + 1, none⟩) ylt8).trans y1)
                have M_y2 := cell_regrown ((hu2.cell (p := ⟨ga, k * 5 + 2, none⟩) ylt8).trans y2)
                have M_y3 := cell_regrown ((hu2.cell (p := ⟨ga, k * 5 + 3, none⟩) ylt8).trans y3)
                have M_y4 := cell_regrown ((hu2.cell (p := ⟨ga, k * 5 + 4, none⟩) ylt8).trans y4)
                clear x0 x1 x2 x3 x4 y0 y1 y2 y3 y4
                have cK := Lib.hid (fun d os => Calls.regrown_of (hLK (grow (redrawn v2 d) os) (hu2.trans ((below_regrown v2 d os).mono hu2.size))))
                clear hLK
                have hwv2 := hwA.trans (hu2.mono hwA.size)
                go_upto_region 23 with fail
                refine wp_region_quiet_below (by kernel_rfl) (by kernel_rfl) ?_
                iterate 38 (go_big_quiet_step (with_reducible exact cK.out _ _))
                refine wpQuiet_nil ?_
                intro _ hw'
                obtain ⟨⟨ds_, oss⟩, hw''⟩ := hw'
                have hu3 : Below v2.heap.size v2 (grow (redrawn v2 ds_) oss) := below_regrown v2 ds_ oss
                subst hw''
                go_wp2
                go_ret
                exact ⟨rfl, hwv2.trans (hu3.mono hwv2.size)⟩
              · have F2 : jv = 3 := by rw [hjn, hl]; rfl
                rw [hl] at hLK
                subst F2
                have cJ := Lib.hid (fun d os => Calls.regrown_of (hJ (grow (redrawn W8 d) os) (below_regrown W8 d os)))
                clear hJ hl hjn
                go_upto_region 22 with fail
                rw [← HW8.out]
                clear e0 e1 e2 e3 e4 e5 e6 e7 e8 e9 ea t0 t1
                refine wp_region_quiet_below (by kernel_rfl) (by kernel_rfl) ?_
                iterate 18 (go_big_quiet_step (with_reducible exact cJ.out _ _))
                refine wpQuiet_nil ?_
                intro _ hw'
                obtain ⟨⟨dr, osr⟩, hw''⟩ := hw'
                have hu2 : Below W8.heap.size W8 (grow (redrawn W8 dr) osr) := below_regrown W8 dr osr
                subst hw''
                obtain ⟨v2, hv2⟩ : ∃ v, v = grow (redrawn W8 dr) osr := ⟨_, rfl⟩
                rw [← hv2] at hu2 ⊢
                clear hv2 cJ K_e0 K_e1 K_e2 K_e3 K_e4 K_e5 K_e6 K_e7 K_e8 K_e9 K_ea K_t0 K_t1 K_x0 K_x1 K_x2 K_x3 K_x4 K_y0 K_y1 K_y2 K_y3 K_y4
                have M_x0 := cell_regrown ((hu2.cell (p := ⟨g, k * 5, none⟩) xlt8).trans x0)
                have M_x1 := cell_regrown ((hu2.cell (p := ⟨g, k * 5 + 1, none⟩) xlt8).trans x1)
                have M_x2 := cell_regrown ((hu2.cell (p := ⟨g, k * 5 + 2, none⟩) xlt8).trans x2)
                have M_x3 := cell_regrown ((hu2.cell (p := ⟨g, k * 5 + 3, none⟩) xlt8).trans x3)
                have M_x4 := cell_regrown ((hu2.cell (p := ⟨g, k * 5 + 4, none⟩) xlt8).trans x4)
                have M_y0 := cell_regrown ((hu2.cell (p := ⟨ga, k * 5, none⟩) ylt8).trans y0)
                have M_y1 := cell_regrown ((hu2.cell (p := ⟨ga, k * 5 + 1, none⟩) ylt8).trans y1)
                have M_y2 := cell_regrown ((hu2.cell (p := ⟨ga, k * 5 + 2, none⟩) ylt8).trans y2)
                have M_y3 := cell_regrown ((hu2.cell (p := ⟨ga, k * 5 + 3, none⟩) ylt8).trans y3)
                have M_y4 := cell_regrown ((hu2.cell (p := ⟨ga, k * 5 + 4, none⟩) ylt8).trans y4)
                clear x0 x1 x2 x3 x4 y0 y1 y2 y3 y4
                have cK := Lib.hid (fun d os => Calls.regrown_of (hLK (grow (redrawn v2 d) os) (hu2.trans ((below_regrown v2 d os).mono hu2.size))))
                clear hLK
                have hwv2 := hwA.trans (hu2.mono hwA.size)
                go_upto_region 23 with fail
                refine wp_region_quiet_below (by kernel_rfl) (by kernel_rfl) ?_
                iterate 38 (go_big_quiet_step (with_reducible exact cK.out _ _))
                refine wpQuiet_nil ?_
                intro _ hw'
                obtain ⟨⟨ds_, oss⟩, hw''⟩ := hw'
                have hu3 : Below v2.heap.size v2 (grow (redrawn v2 ds_) oss) := below_regrown v2 ds_ oss
                subst hw''
                go_wp2
                go_ret
                exact ⟨rfl, hwv2.trans (hu3.mono hwv2.size)⟩
            · obtain rfl : k = N := by omega
              go_upto_region 17 with fail
              refine wp_region_quiet_below (by kernel_rfl) (by kernel_rfl) ?_
              iterate 39 (go_big_quiet_step (with_reducible exact cL1.out _ _ _ _))
              refine wpQuiet_nil ?_
              intro _ hw'
              obtain ⟨⟨dq, osq⟩, hw''⟩ := hw'
              have hu : Below y.heap.size y (grow (redrawn y dq) osq) := below_regrown y dq osq
              subst hw''
              go_wp2
              go_ret
              exact ⟨rfl, hw6.trans (hu.mono hw6.size)⟩
  · have t : (crs c ds != 0) = true := by rw [bne_iff_ne]; exact hC
    obtain ⟨x, hx⟩ : ∃ x, x = crs c ds := ⟨_, rfl⟩
    rw [← hx] at t ⊢
    clear hC hx HCO
    go_wp2
    go_ret
    exact ⟨rfl, hw2⟩
set_option maxRecDepth 100000 in
theorem topFirst_lifted (os : Os) (started : os.Started) (H : Type) (enc : TypeId × Value → H) :
    ReturnsInHanded {} Try.checked os 4 .any (Rows.topFirstSpec.pre6 enc Try.prog Try.f4 Rows.topFirstRow.domain false) (Rows.topFirstSpec.post enc Try.prog Try.f4 false true false false) := by
  refine lift_law (fn := Try.f4) started (by kernel_rfl) Try.func4
    (ChangeSpec.witness6 (enc := enc) (C := Try.checked) false ⟨#[], #[.agg #[.int .i64 0, .int .i64 0, .int .i64 0, .int .u64 0, .int .i64 0, .int .i64 0, .int .i64 0, .int .i64 0, .int .i64 0, .int .i64 0, .int .i64 0], .slice none 0 0, .int .i64 0, .slice none 0 0], []⟩ 8 (by kernel_rfl) (by kernel_rfl) (by kernel_rfl) (by kernel_rfl)) (by kernel_rfl) rfl Try.underlying4 rfl ?_ ?_
  · intro ds h
    rw [Try.params4] at h
    match ds, h with
    | [d0, d1, d2, d3], _ => rfl
  · intro W args ds ps hA hlt hval hsz
    rw [Try.params4] at hA hval hsz
    obtain ⟨v0, vs0, d0, ds0, p0, q0, hargs, rfl, rfl, H0, T0⟩ := trodAll_cons hA
    obtain ⟨v1, vs1, d1, ds1, p1, q1, rfl, rfl, rfl, H1, T1⟩ := trodAll_cons T0
    obtain ⟨v2, vs2, d2, ds2, p2, q2, rfl, rfl, rfl, H2, T2⟩ := trodAll_cons T1
    obtain ⟨v3, vs3, d3, ds3, p3, q3, rfl, rfl, rfl, H3, T3⟩ := trodAll_cons T2
    obtain ⟨rfl, rfl, rfl⟩ := trodAll_nil T3
    obtain rfl : args = #[v0, v1, v2, v3] := by cases args; simp_all
    obtain ⟨b0, hv0⟩ := hval 0 24 v0 rfl rfl
    obtain ⟨b1, hv1⟩ := hval 1 25 v1 rfl rfl
    obtain ⟨b2, hv2⟩ := hval 2 3 v2 rfl rfl
    obtain ⟨b3, hv3⟩ := hval 3 35 v3 rfl rfl
    obtain ⟨c, rfl, cw⟩ := arg_cfg hv0 H0
    obtain ⟨D, n, dc, ds, rfl, hd, hn⟩ := arg_data (j := 1) (fun _ => rfl) hv1 H1 hsz rfl rfl
    obtain ⟨m0, rfl, _⟩ := arg_int hv2 H2
    obtain ⟨A, m, ac, rs, rfl, hR, _, hmc, _⟩ := arg_recs2 (j := 3) (fun _ => rfl) hv3 H3 hsz rfl rfl
    have hs := wf_u64 cw.2.2.2.1
    exact topFirst_walk c hs.1 (by omega) D n dc ds W hd hn m0 A m ac rs hR.weak hmc
theorem TopFirst_holds : Rows.TopFirstSaid :=
  OpenClaim.holds_of_wide 4 Try.f4 rfl rfl rfl rfl rfl rfl rfl ⟨rfl, rfl, rfl, rfl, rfl⟩ rfl rfl rfl rfl rfl (by kernel_rfl) Try.func4 (by kernel_rfl)
    (of_decide_eq_true (by kernel_rfl)) (by unfold Func.isWrapper; first | (rw [if_pos (by decide +kernel)]; kernel_rfl) | (rw [if_neg (by decide +kernel)]; exact ⟨rfl, rfl⟩))
    (fun os started H enc _ => topFirst_lifted os started H enc)

end Go.Proofs.Ytcfmjpcbiomdbaa
