/- The reference's course, verb by verb: walks. -/
import Derived.Test.YtgodgedhddngeaaGreatDoorDskS
import Derived.Test.YtgodgedhddngeaaGreatDoorDskE
import Derived.Test.YtgodgedhddngeaaGreatDoorRStates
set_option maxRecDepth 100000
set_option maxHeartbeats 16000000
namespace Go.Proofs.YtgodgedhddngeaaGreatDoor
open Go.ChangeShapes Go.WideShapes Go.ChangeAt Go.RowKit Go.Sort Pl
theorem jrn_more (c : Cfg) (ds : Data) (hf : Fine c ds) (s0 : 0 ≤ c.seed) (s1 : c.seed < 18446744073709551616) (D : Option Addr) (n dc : Nat) (w : World) (hd : Duos w D n ds) (k : Nat) (hN : (k : Int) + 1 ≤ c.steps) :
  Calls Tryz.prog 62 #[.agg #[.int .i64 c.ci, .int .i64 c.ch, .int .i64 c.co, .int .u64 c.seed, .int .i64 c.batch, .int .i64 c.steps, .int .i64 c.rate, .int .i64 c.decay, .int .i64 c.how, .int .i64 c.keep, .int .i64 c.clip], .slice D n dc, .int .i64 ((k : Int) + 1)] w fun e w' => ∃ g kk X xk, e = .returned (.slice (some ⟨g, 0, none⟩) (k + 1) kk) ∧ g < w'.heap.size ∧
   w'.cell? ⟨g, k * 5, none⟩ = some (.int .i64 (recC c ds k).step) ∧ w'.cell? ⟨g, k * 5 + 1, none⟩ = some (.slice X (recC c ds k).batch.length xk) ∧ w'.cell? ⟨g, k * 5 + 2, none⟩ = some (.int .i64 (recC c ds k).rate) ∧ w'.cell? ⟨g, k * 5 + 3, none⟩ = some (.int .u64 (recC c ds k).root) ∧ w'.cell? ⟨g, k * 5 + 4, none⟩ = some (.int .u64 (recC c ds k).chain) ∧
   Ints .i64 w' X (recC c ds k).batch.length (recC c ds k).batch ∧ Below w.heap.size w w' := by
 have h := ref_Journal c ds hf s0 s1 D n dc w hd (k + 1) (by omega)
 rw [show ((k + 1 : Nat) : Int) = (k : Int) + 1 from by omega] at h
 refine h.mono ?_
 rintro e w' ⟨A, kk, rfl, hL, hb⟩
 obtain ⟨g, c', hv, _⟩ := hL.form (by omega)
 injection hv with a1 a2 a3
 subst a1; subst a3
 obtain ⟨cs, ⟨b, rfl, ⟨X, xk, rfl, hi, _⟩⟩, hc, hg, _⟩ := Held.at hL (j := k) (by omega)
 exact ⟨g, _, X, xk, rfl, hg, hc 0 (by omega), hc 1 (by omega), hc 2 (by omega), hc 3 (by omega), hc 4 (by omega), hi, hb⟩
theorem crs_step (B q : Nat) (c : Cfg) (v : Value) (ds : Data) (bs : List UInt8) (sy : Nat) (w : World) (h : BenchIn B w q c v ds bs sy) (ok : DSt.Ok ⟨c, ds, bs, sy⟩) (V : ByteArray) (hV : V.toList = vStep) (NA LA : Option Addr) (nn nc lc k : Nat) (hk : DSt.k ⟨c, ds, bs, sy⟩ = k) (ht : ∀ W, Below B w W → Tabs W) :
  Calls Tryz.prog 39 #[.pointer (some ⟨q, 0, none⟩), .string V, .slice NA nn nc, .slice LA k lc] w (BenchPost B q (stepD ⟨c, ds, bs, sy⟩) w) := by
 obtain ⟨D, dc, rfl, hd, hdc, hdm⟩ := h.data.duos
 have hb4 : bs.length ≤ 4096 := ok.b
 have hBw : B ≤ w.heap.size := Nat.le_of_lt (Nat.lt_of_le_of_lt h.bq h.dq.lt)
 have hk4 : k ≤ 4096 := by rw [← hk]; exact Nat.le_trans (beg_len bs) hb4
 have HK := Lib.hid hk
 have HI := Lib.hid (fun W (hb : Below w.heap.size w W) => h.below hb)
 have HD := Lib.hid (fun W (hb : Below w.heap.size w W) => hd.below hb)
 have HT := Lib.hid (fun W (hb : Below w.heap.size w W) => ht W (hb.mono hBw))
 have hql := h.dq.lt
 have hcb := crs_small (ds := ds) ok.c
 have hs0 : 0 ≤ c.seed := ok.s0
 have hs1 : c.seed < 18446744073709551616 := by have : c.seed < 10000000000 := ok.s1; omega
 have hn : ds.length ≤ 9223372036854775806 := by have : ds.length ≤ 16 := ok.n; omega
 have k1 : (V.toList == [115, 116, 101, 112]) = true := by rw [hV]; decide
 have k6 : (V.toList == [108, 111, 115, 115]) = false := by rw [hV]; decide
 clear hk hd ht ok hV
 obtain ⟨N, hN⟩ : ∃ N, N = ds.length := ⟨_, rfl⟩
 have HN := Lib.hid hN
 rw [← hN] at hdc hn HI HD
 clear hN
 have HS := Lib.hid (fun W (hb : Below w.heap.size w W) => show (W.cell? ⟨q, 0, none⟩ = some (.int .i64 c.ci) ∧ W.cell? ⟨q, 1, none⟩ = some (.int .i64 c.ch) ∧ W.cell? ⟨q, 2, none⟩ = some (.int .i64 c.co) ∧ W.cell? ⟨q, 3, none⟩ = some (.int .u64 c.seed) ∧ W.cell? ⟨q, 4, none⟩ = some (.int .i64 c.batch) ∧ W.cell? ⟨q, 5, none⟩ = some (.int .i64 c.steps) ∧ W.cell? ⟨q, 6, none⟩ = some (.int .i64 c.rate) ∧ W.cell? ⟨q, 7, none⟩ = some (.int .i64 c.decay) ∧ W.cell? ⟨q, 8, none⟩ = some (.int .i64 c.how) ∧ W.cell? ⟨q, 9, none⟩ = some (.int .i64 c.keep) ∧ W.cell? ⟨q, 10, none⟩ = some (.int .i64 c.clip)) ∧ W.cell? ⟨q, 11, none⟩ = some (.slice D N dc) from ⟨(HI.out W hb).cfg, (HI.out W hb).dv⟩)
 have HCR := Lib.hid (fun W (hb : Below w.heap.size w W) => ref_Course c D N dc ds W (HD.out W hb) hn)
 have e1 : IntKind.i64.wrap ((k : Int) + 1) = (k : Int) + 1 := wrap_small _ (by omega) (by omega)
 go_enter Tryz.func39, Tryz.ntmps39
 go_upto_region 1 with fail
 go_quiet (fail)
 go_upto_region 3 with fail
 obtain ⟨x, hx⟩ : ∃ x, x = crs c ds := ⟨_, rfl⟩
 rw [← hx] at HCR hcb
 have HX := Lib.hid hx
 clear hx
 go_region_held3 (fun W => (W.cell? ⟨q, 0, none⟩ = some (.int .i64 c.ci) ∧ W.cell? ⟨q, 1, none⟩ = some (.int .i64 c.ch) ∧ W.cell? ⟨q, 2, none⟩ = some (.int .i64 c.co) ∧ W.cell? ⟨q, 3, none⟩ = some (.int .u64 c.seed) ∧ W.cell? ⟨q, 4, none⟩ = some (.int .i64 c.batch) ∧ W.cell? ⟨q, 5, none⟩ = some (.int .i64 c.steps) ∧ W.cell? ⟨q, 6, none⟩ = some (.int .i64 c.rate) ∧ W.cell? ⟨q, 7, none⟩ = some (.int .i64 c.decay) ∧ W.cell? ⟨q, 8, none⟩ = some (.int .i64 c.how) ∧ W.cell? ⟨q, 9, none⟩ = some (.int .i64 c.keep) ∧ W.cell? ⟨q, 10, none⟩ = some (.int .i64 c.clip)) ∧ W.cell? ⟨q, 11, none⟩ = some (.slice D N dc)) (first | (with_reducible exact HS.out _ (bel_drewN (Below.refl w.heap.size w) _)) | (with_reducible exact HS.out _ (bel_drewN (Below.refl w.heap.size w) _).drew) | (with_reducible exact HS.out _ hd1) | fail) (first
  | (go_at_call 60; (with_reducible refine (HCR.out _ (bel_drewN (Below.refl w.heap.size w) _)).mono ?_); rintro e w2 ⟨rfl, hb2⟩; have hd1 := bel_trans (bel_drewN (Below.refl w.heap.size w) _) hb2)
  | fail)
 all_goals
  have h2 := HI.out _ hd1
  clear hb2 HCR
  by_cases hC : x = 0
  ·have hC' : crs c ds = 0 := by rw [← HX.out]; exact hC
   subst hC
   obtain ⟨d0, d1, d2, d3, d4, d5, d6, d7, d8, d9, da⟩ := h2.cfg
   by_cases hst : (k : Int) + 1 ≤ c.steps
   ·have hf := fine hC'
    have hgd := (recC_good hf (m := k + 1) (by omega)) k (by omega)
    have HMK := Lib.hid (fun W (hb : Below w.heap.size w W) => jrn_more c ds hf hs0 hs1 D N dc W (HD.out W hb) k hst)
    obtain ⟨r, hr⟩ : ∃ r, r = recC c ds k := ⟨_, rfl⟩
    rw [← hr] at hgd HMK
    have hg := hgd.1
    clear hgd
    have hll := line_len hg
    have hl1 : (lineT r).length ≤ 241 := by unfold lineT; rw [List.length_append]; show _ + 1 ≤ _; omega
    have hl0 : 1 ≤ (lineT r).length := by unfold lineT; rw [List.length_append]; show 1 ≤ _ + 1; omega
    have F0 := Lib.hid (show stepD ⟨c, ds, bs, sy⟩ = if 4096 < bs.length + (lineT r).length then (errT 6, ⟨c, ds, bs, sy⟩) else ((lineT r).dropLast, ⟨c, ds, bs ++ lineT r, sy⟩) from by
     unfold stepD
     rw [if_neg (by simpa using hC'), if_neg (by rw [HK.out]; show ¬ c.steps < (k : Int) + 1; omega), HK.out, hr])
    have HLT := Lib.hid (fun (X : Option Addr) (xk : Nat) (W : World) (hb : Below w.heap.size w W) (hi : Ints .i64 W X r.batch.length r.batch) => ref_LineText r X r.batch.length xk W hi hg (HT.out _ hb))
    obtain ⟨T, hT⟩ : ∃ T, T = bytesOf (lineT r) := ⟨_, rfl⟩
    rw [← hT] at HLT
    have hTs : T.size = (lineT r).length := by rw [hT]; rfl
    have HTT := Lib.hid hT
    have z1 : (0 : Int) ≤ (k : Int) := by omega
    have z2 : (k : Int) < (k : Int) + 1 := by omega
    have z3 : k < k + 1 := by omega
    have z5 : ¬ c.steps < (k : Int) + 1 := by omega
    clear hr hg hll hC' hst hf hT
    go_upto_region 11 with fail
    have HS2 := Lib.hid (fun W (hb : Below w2.heap.size w2 W) => HS.out W (bel_trans hd1 hb))
    have HMK2 := Lib.hid (fun W (hb : Below w2.heap.size w2 W) => HMK.out W (bel_trans hd1 hb))
    have HLT2 := Lib.hid (fun (X : Option Addr) (xk : Nat) (W : World) (hb : Below w2.heap.size w2 W) (hi : Ints .i64 W X r.batch.length r.batch) => HLT.out X xk W (bel_trans hd1 hb) hi)
    have hy0 : Below w2.heap.size w2 w2.drew := (Below.refl _ _).drew
    have dd := h2.dv
    clear HMK HLT HS2
    go_region_law (first
     | (go_simp; go_at_call 62; (refine (HMK2.out _ hy0).mono ?_); rintro e u1 ⟨g, kk, X, xk, rfl, hgl, x0, x1, x2, x3, x4, hXI, hbu⟩; have hy1 := bel_trans hy0 hbu)
     | (go_simp; go_at_call 61; (refine (HLT2.out X xk _ hy1 hXI).mono ?_); rintro e u2 ⟨rfl, hbt⟩; have hy2 := bel_trans hy1 hbt)
     | fail)
    all_goals
     have h3 := h2.below hy2
     have hd3 := bel_trans hd1 hy2
     have qc := h3.db
     have qf := h3.dq.frozen 12
     obtain ⟨BS, hBS⟩ : ∃ BS, BS = bytesOf bs := ⟨_, rfl⟩
     have hBZ : BS.size = bs.length := by rw [hBS]; rfl
     have hBT : BS ++ T = bytesOf (bs ++ lineT r) := by rw [hBS, HTT.out, bytesOf_app]
     obtain ⟨K, hK⟩ : ∃ K, T.size = K + 1 := ⟨T.size - 1, by omega⟩
     have hTK : T.extract 0 K = bytesOf (lineT r).dropLast := by rw [HTT.out, bytesOf_take, List.dropLast_eq_take, show (lineT r).length - 1 = K from by omega]
     rw [← hBS] at qc
     have HTKH := Lib.hid hTK
     have HBTH := Lib.hid hBT
     have e2 : IntKind.i64.wrap ((BS.size : Int) + (T.size : Int)) = (BS.size : Int) + (T.size : Int) := wrap_small _ (by omega) (by omega)
     have e3 : IntKind.i64.wrap ((T.size : Int) - 1) = (K : Int) := by rw [wrap_small _ (by omega) (by omega)]; omega
     have q4 : ¬ 9223372036854775807 < BS.size + T.size := by omega
     have q5 : (0 : Int) ≤ (K : Int) := by omega
     have q6 : (K : Int) ≤ (T.size : Int) := by omega
     clear x0 x1 x2 x3 x4 hXI HMK2 HLT2 d0 d1 d2 d3 d4 d5 d6 d7 d8 d9 da dd
     by_cases hfit : 4096 < BS.size + T.size
     ·have F := Lib.hid (show stepD ⟨c, ds, bs, sy⟩ = (errT 6, ⟨c, ds, bs, sy⟩) from by rw [F0.out, if_pos (by omega)])
      have HFA := Lib.hid (ref_wrong 6 u2 (by omega) (by omega) (HT.out _ hd3))
      have z6 : (4096 : Int) < (BS.size : Int) + (T.size : Int) := by omega
      clear hfit hTK hBT hTs hK hBZ hBS hl0 hl1 hb4
      go_wp2_with fail
      refine HFA.out.mono ?_
      rintro e w3 ⟨rfl, hb3⟩
      go_wp2
      go_ret
      rw [F.out]
      exact ⟨rfl, ⟨_, h3.below hb3⟩, Kp.of_below (bel_trans hd3 hb3)⟩
     ·have F := Lib.hid (show stepD ⟨c, ds, bs, sy⟩ = ((lineT r).dropLast, ⟨c, ds, bs ++ lineT r, sy⟩) from by rw [F0.out, if_neg (by omega)])
      have z6 : ¬ (4096 : Int) < (BS.size : Int) + (T.size : Int) := by omega
      clear hfit hTK hBT hTs hK hBZ hBS hl0 hl1 hb4
      go_wp2
      go_ret
      rw [F.out, HBTH.out, HTKH.out]
      exact ⟨rfl, ⟨_, h3.own ((But.refl q _).put 12 _) (h3.dq.put 12 _)⟩, (Kp.of_below hd3).trans (Kp.bench_but h3 ((But.refl q _).put 12 _))⟩
   ·have F := Lib.hid (show stepD ⟨c, ds, bs, sy⟩ = (errT 1, ⟨c, ds, bs, sy⟩) from by
     unfold stepD
     rw [if_neg (by simpa using hC'), if_pos (by rw [HK.out]; show c.steps < (k : Int) + 1; omega)])
    have HFA := Lib.hid (ref_wrong 1 w2 (by omega) (by omega) (HT.out _ hd1))
    have z5 : c.steps < (k : Int) + 1 := by omega
    clear hC' hst
    go_wp2_with fail
    refine HFA.out.mono ?_
    rintro e w3 ⟨rfl, hb3⟩
    go_wp2
    go_ret
    rw [F.out]
    exact ⟨rfl, ⟨_, h2.below hb3⟩, Kp.of_below (bel_trans hd1 hb3)⟩
  ·have F := Lib.hid (show stepD ⟨c, ds, bs, sy⟩ = (errT x, ⟨c, ds, bs, sy⟩) from by rw [HX.out]; exact if_pos (by rw [← HX.out]; exact hC))
   have t0 : (x != 0) = true := by rw [bne_iff_ne]; exact hC
   have HFA := Lib.hid (ref_wrong x w2 (by omega) (by omega) (HT.out _ hd1))
   clear hC
   go_wp2_with fail
   refine HFA.out.mono ?_
   rintro e w3 ⟨rfl, hb3⟩
   go_wp2
   go_ret
   rw [F.out]
   exact ⟨rfl, ⟨_, h2.below hb3⟩, Kp.of_below (bel_trans hd1 hb3)⟩
theorem crs_audit (B q : Nat) (c : Cfg) (v : Value) (ds : Data) (bs : List UInt8) (sy : Nat) (w : World) (h : BenchIn B w q c v ds bs sy) (ok : DSt.Ok ⟨c, ds, bs, sy⟩) (V : ByteArray) (hV : V.toList = vAudit) (NA LA : Option Addr) (nn nc lc k : Nat) (hk : DSt.k ⟨c, ds, bs, sy⟩ = k) (f : Nat → Rec) (hf0 : f = recAt (beg bs).1) (hR : RecsR w LA k (upto f k)) (ht : ∀ W, Below B w W → Tabs W) :
  Calls Tryz.prog 39 #[.pointer (some ⟨q, 0, none⟩), .string V, .slice NA nn nc, .slice LA k lc] w (BenchPost B q (auditD ⟨c, ds, bs, sy⟩, ⟨c, ds, bs, sy⟩) w) := by
 obtain ⟨D, dc, rfl, hd, hdc, hdm⟩ := h.data.duos
 have hb4 : bs.length ≤ 4096 := ok.b
 have hBw : B ≤ w.heap.size := Nat.le_of_lt (Nat.lt_of_le_of_lt h.bq h.dq.lt)
 have hk4 : k ≤ 4096 := by rw [← hk]; exact Nat.le_trans (beg_len bs) hb4
 have HK := Lib.hid hk
 have HI := Lib.hid (fun W (hb : Below w.heap.size w W) => h.below hb)
 have HD := Lib.hid (fun W (hb : Below w.heap.size w W) => hd.below hb)
 have HT := Lib.hid (fun W (hb : Below w.heap.size w W) => ht W (hb.mono hBw))
 have hql := h.dq.lt
 have hcb := crs_small (ds := ds) ok.c
 have hs0 : 0 ≤ c.seed := ok.s0
 have hs1 : c.seed < 18446744073709551616 := by have : c.seed < 10000000000 := ok.s1; omega
 have hn : ds.length ≤ 9223372036854775806 := by have : ds.length ≤ 16 := ok.n; omega
 have k1 : (V.toList == [115, 116, 101, 112]) = false := by rw [hV]; decide
 have k5 : (V.toList == [97, 117, 100, 105, 116]) = true := by rw [hV]; decide
 have k6 : (V.toList == [108, 111, 115, 115]) = false := by rw [hV]; decide
 have F0 := Lib.hid (show auditD ⟨c, ds, bs, sy⟩ = if crs c ds ≠ 0 then errT (crs c ds) else if c.steps < (k : Int) then errT 2 else Lib.itoa (audN k f (recC c ds) : Nat) from by rw [hf0, ← hk]; rfl)
 have HRR := Lib.hid (fun W (hb : Below w.heap.size w W) => hR.below hb)
 clear hk hd ht ok hV hf0 hR
 obtain ⟨N, hN⟩ : ∃ N, N = ds.length := ⟨_, rfl⟩
 have HN := Lib.hid hN
 rw [← hN] at hdc hn HI HD
 clear hN
 have HS := Lib.hid (fun W (hb : Below w.heap.size w W) => show (W.cell? ⟨q, 0, none⟩ = some (.int .i64 c.ci) ∧ W.cell? ⟨q, 1, none⟩ = some (.int .i64 c.ch) ∧ W.cell? ⟨q, 2, none⟩ = some (.int .i64 c.co) ∧ W.cell? ⟨q, 3, none⟩ = some (.int .u64 c.seed) ∧ W.cell? ⟨q, 4, none⟩ = some (.int .i64 c.batch) ∧ W.cell? ⟨q, 5, none⟩ = some (.int .i64 c.steps) ∧ W.cell? ⟨q, 6, none⟩ = some (.int .i64 c.rate) ∧ W.cell? ⟨q, 7, none⟩ = some (.int .i64 c.decay) ∧ W.cell? ⟨q, 8, none⟩ = some (.int .i64 c.how) ∧ W.cell? ⟨q, 9, none⟩ = some (.int .i64 c.keep) ∧ W.cell? ⟨q, 10, none⟩ = some (.int .i64 c.clip)) ∧ W.cell? ⟨q, 11, none⟩ = some (.slice D N dc) from ⟨(HI.out W hb).cfg, (HI.out W hb).dv⟩)
 have HCR := Lib.hid (fun W (hb : Below w.heap.size w W) => ref_Course c D N dc ds W (HD.out W hb) hn)
 go_enter Tryz.func39, Tryz.ntmps39
 go_upto_region 1 with fail
 go_quiet (fail)
 go_upto_region 3 with fail
 obtain ⟨x, hx⟩ : ∃ x, x = crs c ds := ⟨_, rfl⟩
 rw [← hx] at HCR hcb
 have HX := Lib.hid hx
 clear hx
 go_region_held3 (fun W => (W.cell? ⟨q, 0, none⟩ = some (.int .i64 c.ci) ∧ W.cell? ⟨q, 1, none⟩ = some (.int .i64 c.ch) ∧ W.cell? ⟨q, 2, none⟩ = some (.int .i64 c.co) ∧ W.cell? ⟨q, 3, none⟩ = some (.int .u64 c.seed) ∧ W.cell? ⟨q, 4, none⟩ = some (.int .i64 c.batch) ∧ W.cell? ⟨q, 5, none⟩ = some (.int .i64 c.steps) ∧ W.cell? ⟨q, 6, none⟩ = some (.int .i64 c.rate) ∧ W.cell? ⟨q, 7, none⟩ = some (.int .i64 c.decay) ∧ W.cell? ⟨q, 8, none⟩ = some (.int .i64 c.how) ∧ W.cell? ⟨q, 9, none⟩ = some (.int .i64 c.keep) ∧ W.cell? ⟨q, 10, none⟩ = some (.int .i64 c.clip)) ∧ W.cell? ⟨q, 11, none⟩ = some (.slice D N dc)) (first | (with_reducible exact HS.out _ (bel_drewN (Below.refl w.heap.size w) _)) | (with_reducible exact HS.out _ (bel_drewN (Below.refl w.heap.size w) _).drew) | (with_reducible exact HS.out _ hd1) | fail) (first
  | (go_at_call 60; (with_reducible refine (HCR.out _ (bel_drewN (Below.refl w.heap.size w) _)).mono ?_); rintro e w2 ⟨rfl, hb2⟩; have hd1 := bel_trans (bel_drewN (Below.refl w.heap.size w) _) hb2)
  | fail)
 all_goals
  have h2 := HI.out _ hd1
  clear hb2 HCR
  by_cases hC : x = 0
  ·have hC' : crs c ds = 0 := by rw [← HX.out]; exact hC
   subst hC
   obtain ⟨d0, d1, d2, d3, d4, d5, d6, d7, d8, d9, da⟩ := h2.cfg
   by_cases hst : (k : Int) ≤ c.steps
   ·have hf := fine hC'
    have F := Lib.hid (show auditD ⟨c, ds, bs, sy⟩ = Lib.itoa (audN k f (recC c ds) : Nat) from by rw [F0.out, if_neg (by simpa using hC'), if_neg (by omega)])
    have HMK := Lib.hid (fun W (hb : Below w2.heap.size w2 W) => ref_Audit c ds hf hs0 hs1 D N dc W (HD.out W (bel_trans hd1 hb)) LA k lc f (HRR.out W (bel_trans hd1 hb)) hst)
    have hal := audN_le k f (recC c ds)
    have HFB := Lib.hid (fun (kk : Nat) (hh : FirstBad k f (recC c ds) kk) => firstBad_aud hh)
    obtain ⟨y, hy⟩ : ∃ y, y = audN k f (recC c ds) := ⟨_, rfl⟩
    rw [← hy] at F hal HFB
    have HTO := Lib.hid (fun W (hb : Below w2.heap.size w2 W) => lib_ItoaL (y : Int) (by omega) (by omega) W (HT.out _ (bel_trans hd1 hb)))
    have z5 : ¬ c.steps < (k : Int) := by omega
    have HS2 := Lib.hid (fun W (hb : Below w2.heap.size w2 W) => HS.out W (bel_trans hd1 hb))
    have hy0 : Below w2.heap.size w2 w2.drew := (Below.refl _ _).drew
    clear hC' hst hf hy F0
    go_upto_region 19 with fail
    clear d0 d1 d2 d3 d4 d5 d6 d7 d8 d9 da
    go_region_held3 (fun W => (W.cell? ⟨q, 0, none⟩ = some (.int .i64 c.ci) ∧ W.cell? ⟨q, 1, none⟩ = some (.int .i64 c.ch) ∧ W.cell? ⟨q, 2, none⟩ = some (.int .i64 c.co) ∧ W.cell? ⟨q, 3, none⟩ = some (.int .u64 c.seed) ∧ W.cell? ⟨q, 4, none⟩ = some (.int .i64 c.batch) ∧ W.cell? ⟨q, 5, none⟩ = some (.int .i64 c.steps) ∧ W.cell? ⟨q, 6, none⟩ = some (.int .i64 c.rate) ∧ W.cell? ⟨q, 7, none⟩ = some (.int .i64 c.decay) ∧ W.cell? ⟨q, 8, none⟩ = some (.int .i64 c.how) ∧ W.cell? ⟨q, 9, none⟩ = some (.int .i64 c.keep) ∧ W.cell? ⟨q, 10, none⟩ = some (.int .i64 c.clip)) ∧ W.cell? ⟨q, 11, none⟩ = some (.slice D N dc)) (first | (with_reducible exact HS2.out _ hy0) | (with_reducible exact HS2.out _ hy1) | (with_reducible exact HS2.out _ hy2) | fail) (first
     | (go_at_call 63; (with_reducible refine (HMK.out _ hy0).mono ?_); rintro e u1 ⟨kk, hkk, rfl, hbu⟩; obtain rfl : kk = y := HFB.out _ hkk; have hy1 := bel_trans hy0 hbu)
     | (go_at_call 38; (refine (HTO.out _ hy1).mono ?_); rintro e u2 ⟨rfl, hbt⟩; have hy2 := bel_trans hy1 hbt)
     | fail)
    all_goals
     go_wp2
     go_ret
     rw [F.out]
     exact ⟨rfl, ⟨_, h2.below hy2⟩, Kp.of_below (bel_trans hd1 hy2)⟩
   ·have F := Lib.hid (show auditD ⟨c, ds, bs, sy⟩ = errT 2 from by rw [F0.out, if_neg (by simpa using hC'), if_pos (by omega)])
    have HFA := Lib.hid (ref_wrong 2 w2 (by omega) (by omega) (HT.out _ hd1))
    have z5 : c.steps < (k : Int) := by omega
    clear hC' hst F0
    go_wp2_with fail
    refine HFA.out.mono ?_
    rintro e w3 ⟨rfl, hb3⟩
    go_wp2
    go_ret
    rw [F.out]
    exact ⟨rfl, ⟨_, h2.below hb3⟩, Kp.of_below (bel_trans hd1 hb3)⟩
  ·have F := Lib.hid (show auditD ⟨c, ds, bs, sy⟩ = errT x from by rw [F0.out, HX.out, if_pos (by rw [← HX.out]; exact hC)])
   have t0 : (x != 0) = true := by rw [bne_iff_ne]; exact hC
   have HFA := Lib.hid (ref_wrong x w2 (by omega) (by omega) (HT.out _ hd1))
   clear hC F0
   go_wp2_with fail
   refine HFA.out.mono ?_
   rintro e w3 ⟨rfl, hb3⟩
   go_wp2
   go_ret
   rw [F.out]
   exact ⟨rfl, ⟨_, h2.below hb3⟩, Kp.of_below (bel_trans hd1 hb3)⟩
end Go.Proofs.YtgodgedhddngeaaGreatDoor
