/- The law AuditJudges holds of the given program for every input. No condition. -/
import Derived.Test.YtaicdhjdedijoaaGreatSpotJ
import Derived.Test.YtaicdhjdedijoaaGreatRNext
import Derived.Test.YtaicdhjdedijoaaGreatArgR
namespace Go.Proofs.YtaicdhjdedijoaaGreat
open Go.ChangeShapes Go.WideShapes Go.ChangeAt Go.RowKit Pl

set_option maxRecDepth 100000 in
set_option maxHeartbeats 4000000 in
theorem auditJudges_walk (c : Cfg) (s0 : 0 ≤ c.seed) (s1 : c.seed < 18446744073709551616) (D : Option Addr) (n dc : Nat) (ds : Data) (w : World) (hd : Duos w D n ds) (hn : n ≤ 9223372036854775806) (s : List Int × List Int) (A1 A2 : Option Addr) (n1 n2 k1 k2 : Nat) (i1 : Ints .i64 w A1 n1 s.1) (i2 : Ints .i64 w A2 n2 s.2) (z1 : n1 ≤ 9223372036854775807) (z2 : n2 ≤ 9223372036854775807) (hk1 : n1 ≤ k1) (step : Int)
    (A B : Option Addr) (m k m' k' : Nat) (a b : Rec) (hA : Ints .i64 w A m a.batch) (hB : Ints .i64 w B m' b.batch) :
    Calls Tryz.prog 6 #[.agg #[.int .i64 c.ci, .int .i64 c.ch, .int .i64 c.co, .int .u64 c.seed, .int .i64 c.batch, .int .i64 c.steps, .int .i64 c.rate, .int .i64 c.decay, .int .i64 c.how, .int .i64 c.keep, .int .i64 c.clip], .slice D n dc, .agg #[.slice A1 n1 k1, .slice A2 n2 k2], .int .i64 step, .agg #[.int .i64 a.step, .slice A m k, .int .i64 a.rate, .int .u64 a.root, .int .u64 a.chain], .agg #[.int .i64 b.step, .slice B m' k', .int .i64 b.rate, .int .u64 b.root, .int .u64 b.chain]] w fun e w' => e = .returned (.bool true) ∧ Below w.heap.size w w' := by
  have HB0 := (((Blk.made w 24 #[.int .i64 c.ci, .int .i64 c.ch, .int .i64 c.co, .int .u64 c.seed, .int .i64 c.batch, .int .i64 c.steps, .int .i64 c.rate, .int .i64 c.decay, .int .i64 c.how, .int .i64 c.keep, .int .i64 c.clip]).alloc (.cells #[.slice A1 n1 k1, .slice A2 n2 k2] 28)).alloc (.cells #[.int .i64 a.step, .slice A m k, .int .i64 a.rate, .int .u64 a.root, .int .u64 a.chain] 33)).alloc (.cells #[.int .i64 b.step, .slice B m' k', .int .i64 b.rate, .int .u64 b.root, .int .u64 b.chain] 33)
  have HB1 := ((Blk.made' (w.alloc (.cells #[.int .i64 c.ci, .int .i64 c.ch, .int .i64 c.co, .int .u64 c.seed, .int .i64 c.batch, .int .i64 c.steps, .int .i64 c.rate, .int .i64 c.decay, .int .i64 c.how, .int .i64 c.keep, .int .i64 c.clip] 24)) 28 #[.slice A1 n1 k1, .slice A2 n2 k2] (g := w.heap.size + 1) (by simp)).alloc (.cells #[.int .i64 a.step, .slice A m k, .int .i64 a.rate, .int .u64 a.root, .int .u64 a.chain] 33)).alloc (.cells #[.int .i64 b.step, .slice B m' k', .int .i64 b.rate, .int .u64 b.root, .int .u64 b.chain] 33)
  have HBA := ((Blk.made' ((w.alloc (.cells #[.int .i64 c.ci, .int .i64 c.ch, .int .i64 c.co, .int .u64 c.seed, .int .i64 c.batch, .int .i64 c.steps, .int .i64 c.rate, .int .i64 c.decay, .int .i64 c.how, .int .i64 c.keep, .int .i64 c.clip] 24)).alloc (.cells #[.slice A1 n1 k1, .slice A2 n2 k2] 28)) 33 #[.int .i64 a.step, .slice A m k, .int .i64 a.rate, .int .u64 a.root, .int .u64 a.chain] (g := w.heap.size + 1 + 1) (by simp)).alloc (.cells #[.int .i64 b.step, .slice B m' k', .int .i64 b.rate, .int .u64 b.root, .int .u64 b.chain] 33))
  have HBB := Blk.made' (((w.alloc (.cells #[.int .i64 c.ci, .int .i64 c.ch, .int .i64 c.co, .int .u64 c.seed, .int .i64 c.batch, .int .i64 c.steps, .int .i64 c.rate, .int .i64 c.decay, .int .i64 c.how, .int .i64 c.keep, .int .i64 c.clip] 24)).alloc (.cells #[.slice A1 n1 k1, .slice A2 n2 k2] 28)).alloc (.cells #[.int .i64 a.step, .slice A m k, .int .i64 a.rate, .int .u64 a.root, .int .u64 a.chain] 33)) 33 #[.int .i64 b.step, .slice B m' k', .int .i64 b.rate, .int .u64 b.root, .int .u64 b.chain] (g := w.heap.size + 1 + 1 + 1) (by simp)
  have b0 : Below w.heap.size w ((((w.alloc (.cells #[.int .i64 c.ci, .int .i64 c.ch, .int .i64 c.co, .int .u64 c.seed, .int .i64 c.batch, .int .i64 c.steps, .int .i64 c.rate, .int .i64 c.decay, .int .i64 c.how, .int .i64 c.keep, .int .i64 c.clip] 24)).alloc (.cells #[.slice A1 n1 k1, .slice A2 n2 k2] 28)).alloc (.cells #[.int .i64 a.step, .slice A m k, .int .i64 a.rate, .int .u64 a.root, .int .u64 a.chain] 33)).alloc (.cells #[.int .i64 b.step, .slice B m' k', .int .i64 b.rate, .int .u64 b.root, .int .u64 b.chain] 33)) := (by repeat (first | exact Below.refl _ _ | assumption | refine bel_drewN ?_ _ | refine Below.drew ?_ | (refine Below.alloc ?_ (by simp <;> omega) _) | (refine Below.setCell ?_ (by simp <;> omega) _)))
  have HNE := Lib.hid (fun W (h : Below w.heap.size w W) => law_nextError c ds D n dc W (hd.below h) hn s A1 A2 n1 n2 k1 k2 (i1.below h) (i2.below h) z1 z2 step)
  by_cases h0 : nextE c ds s step = 0
  · obtain ⟨hC, hF, q1, q2⟩ := nextE_0 h0
    have hf := fine hC
    have hba := hf.ok.ba
    have hst := hf.ok.st
    obtain ⟨j, rfl⟩ : ∃ j : Nat, step = (j : Int) := ⟨step.toNat, by omega⟩
    obtain ⟨f1, f2, _, _⟩ := fits_iff.1 hF
    have e1 : n1 = c.N := by rw [← i1.len]; exact f1
    have e2 : n2 = c.N := by rw [← i2.len]; exact f2
    have HRN := Lib.hid (fun W (h : Below w.heap.size w W) => ref_Next c ds hf s0 s1 D n dc W (hd.below h) s hF A1 A2 k1 k2 (e1 ▸ i1.below h) (e2 ▸ i2.below h) (e1 ▸ hk1) j q2)
    have HJU := Lib.hid (fun W (h : Below w.heap.size w W) => aud_Judge_ok c ds hC s0 s1 D n dc W (hd.below h) s hF A1 A2 k1 k2 (e1 ▸ i1.below h) (e2 ▸ i2.below h) (e1 ▸ hk1) j q2 A B m k m' k' a b (hA.below h) (hB.below h))
    have HBL := Lib.hid (show ((batI c ds j).map fun (n : Nat) => (n : Int)).length = c.batch.toNat by rw [List.length_map, batI_length])
    have HLK := Lib.hid (fun W (h : Below w.heap.size w W) (E : Option Addr) (d : Nat) (hE : Ints .i64 W E c.batch.toNat ((batI c ds j).map fun (n : Nat) => (n : Int))) => (⟨ref_Like a (recN c ds s j) A E m k c.batch.toNat d W (hA.below h) hE (.inr (by omega)), ref_Like b (recN c ds s j) B E m' k' c.batch.toNat d W (hB.below h) hE (.inr (by omega))⟩ :
      Calls Tryz.prog 35 #[.agg #[.int .i64 a.step, .slice A m k, .int .i64 a.rate, .int .u64 a.root, .int .u64 a.chain], .agg #[.int .i64 j, .slice E c.batch.toNat d, .int .i64 (ratI c j), .int .u64 (rootS (nextS c ds s j)), .int .u64 0]] W (fun e w' => e = .returned (.bool (likeR a (recN c ds s j))) ∧ Below W.heap.size W w') ∧
      Calls Tryz.prog 35 #[.agg #[.int .i64 b.step, .slice B m' k', .int .i64 b.rate, .int .u64 b.root, .int .u64 b.chain], .agg #[.int .i64 j, .slice E c.batch.toNat d, .int .i64 (ratI c j), .int .u64 (rootS (nextS c ds s j)), .int .u64 0]] W (fun e w' => e = .returned (.bool (likeR b (recN c ds s j))) ∧ Below W.heap.size W w')))
    have HJ := Lib.hid (show judgeN a b (recN c ds s j) = (if likeR a (recN c ds s j) then 1 else 0) + (if likeR b (recN c ds s j) then 2 else 0) from rfl)
    rw [h0] at HNE
    rw [← e1] at HRN HJU
    rw [show (.slice A2 n1 k2 : Value) = .slice A2 n2 k2 by rw [e1, e2]] at HRN HJU
    obtain ⟨x, hx⟩ : ∃ x, x = recN c ds s j := ⟨_, rfl⟩
    rw [← hx] at HLK HJ HJU
    obtain ⟨ro, hro⟩ : ∃ ro, ro = rootS (nextS c ds s j) := ⟨_, rfl⟩
    have HRO := Lib.hid hro
    rw [← hro] at HLK
    clear hx hro hC hF hf hba hst f1 f2 h0 hd i1 i2 e1 e2 hA hB
    go_enter Tryz.func6, Tryz.ntmps6
    go_wp2_with fail
    refine (HNE.out _ b0).mono ?_
    rintro e x1 ⟨rfl, hb1⟩
    have hbw := b0.trans (hb1.mono b0.size)
    replace HB0 := HB0.below hb1 HB0.lt
    replace HB1 := HB1.below hb1 HB1.lt
    replace HBA := HBA.below hb1 HBA.lt
    replace HBB := HBB.below hb1 HBB.lt
    clear hb1 b0
    obtain ⟨d0, d1, d2, d3, d4, d5, d6, d7, d8, d9, da⟩ := HB0.cfg
    obtain ⟨⟨e0, e1⟩, _⟩ := HB1.two
    go_wp2_with fail
    refine (HRN.out _ hbw).mono ?_
    rintro e x2 ⟨B1, r1, B2, r2, E, ec, rfl, O1, O2, O3, hb2⟩
    rw [← HRO.out]
    have hbw2 := hbw.trans (hb2.mono hbw.size)
    have I3 := Ints.of_own O3 HBL.out
    have bA : Below x2.heap.size x2 ((x2.alloc (.cells #[.slice B1 c.N r1, .slice B2 c.N r2] 28)).alloc (.cells #[.int .i64 j, .slice E c.batch.toNat ec, .int .i64 (ratI c j), .int .u64 ro, .int .u64 0] 33)) := (by repeat (first | exact Below.refl _ _ | assumption | refine bel_drewN ?_ _ | refine Below.drew ?_ | (refine Below.alloc ?_ (by simp <;> omega) _) | (refine Below.setCell ?_ (by simp <;> omega) _)))
    have BR := Blk.made' (x2.alloc (.cells #[.slice B1 c.N r1, .slice B2 c.N r2] 28)) 33 #[.int .i64 j, .slice E c.batch.toNat ec, .int .i64 (ratI c j), .int .u64 ro, .int .u64 0] (g := x2.heap.size + 1) (by simp)
    have HBX := Lib.hid (fun W (h : Below x2.heap.size x2 W) => (⟨(HB0.below (bel_trans hb2 h) HB0.lt).cfg, (HB1.below (bel_trans hb2 h) HB1.lt).two.1, (HBA.below (bel_trans hb2 h) HBA.lt).rec5.1, (HBB.below (bel_trans hb2 h) HBB.lt).rec5.1⟩ :
      (W.cell? ⟨w.heap.size, 0, none⟩ = some (.int .i64 c.ci) ∧ W.cell? ⟨w.heap.size, 1, none⟩ = some (.int .i64 c.ch) ∧ W.cell? ⟨w.heap.size, 2, none⟩ = some (.int .i64 c.co) ∧ W.cell? ⟨w.heap.size, 3, none⟩ = some (.int .u64 c.seed) ∧ W.cell? ⟨w.heap.size, 4, none⟩ = some (.int .i64 c.batch) ∧ W.cell? ⟨w.heap.size, 5, none⟩ = some (.int .i64 c.steps) ∧ W.cell? ⟨w.heap.size, 6, none⟩ = some (.int .i64 c.rate) ∧ W.cell? ⟨w.heap.size, 7, none⟩ = some (.int .i64 c.decay) ∧ W.cell? ⟨w.heap.size, 8, none⟩ = some (.int .i64 c.how) ∧ W.cell? ⟨w.heap.size, 9, none⟩ = some (.int .i64 c.keep) ∧ W.cell? ⟨w.heap.size, 10, none⟩ = some (.int .i64 c.clip)) ∧ (W.cell? ⟨w.heap.size + 1, 0, none⟩ = some (.slice A1 n1 k1) ∧ W.cell? ⟨w.heap.size + 1, 1, none⟩ = some (.slice A2 n2 k2)) ∧
      (W.cell? ⟨w.heap.size + 1 + 1, 0, none⟩ = some (.int .i64 a.step) ∧ W.cell? ⟨w.heap.size + 1 + 1, 1, none⟩ = some (.slice A m k) ∧ W.cell? ⟨w.heap.size + 1 + 1, 2, none⟩ = some (.int .i64 a.rate) ∧ W.cell? ⟨w.heap.size + 1 + 1, 3, none⟩ = some (.int .u64 a.root) ∧ W.cell? ⟨w.heap.size + 1 + 1, 4, none⟩ = some (.int .u64 a.chain)) ∧
      W.cell? ⟨w.heap.size + 1 + 1 + 1, 0, none⟩ = some (.int .i64 b.step) ∧ W.cell? ⟨w.heap.size + 1 + 1 + 1, 1, none⟩ = some (.slice B m' k') ∧ W.cell? ⟨w.heap.size + 1 + 1 + 1, 2, none⟩ = some (.int .i64 b.rate) ∧ W.cell? ⟨w.heap.size + 1 + 1 + 1, 3, none⟩ = some (.int .u64 b.root) ∧ W.cell? ⟨w.heap.size + 1 + 1 + 1, 4, none⟩ = some (.int .u64 b.chain)))
    have hla : w.heap.size + 1 + 1 < x2.heap.size := Nat.lt_of_lt_of_le HBA.lt hb2.size
    have hla1 : w.heap.size + 1 < x2.heap.size := by omega
    have hla0 : w.heap.size < x2.heap.size := by omega
    clear d0 d1 d2 d3 d4 d5 d6 d7 d8 d9 da e0 e1 O1 O2 O3
    obtain ⟨_, _, ⟨a0, a1, a2, a3, a4⟩, _⟩ := HBX.out x2 (Below.refl _ _)
    have HLA := Lib.hid (HLK.out _ (hbw2.trans (bA.mono hbw2.size)) E ec (I3.below bA)).1
    cases h1 : likeR a x
    all_goals
      rw [h1] at HLA
      have E1 := Lib.hid h1
      clear h1
      go_wp2_with fail
      refine HLA.out.mono ?_
      rintro e w4 ⟨rfl, hb4⟩
      have h24 := bel_trans bA hb4
      have hbw4 := hbw2.trans (h24.mono hbw2.size)
      have BR4 := BR.below hb4 BR.lt
      obtain ⟨_, _, _, ⟨c0, c1, c2, c3, c4⟩⟩ := HBX.out w4 h24
      obtain ⟨⟨t0, t1, t2, t3, t4⟩, _⟩ := BR4.rec5
      have HLB := Lib.hid (HLK.out w4 hbw4 E ec (I3.below h24)).2
      cases h2 : likeR b x
      all_goals
        rw [h2] at HLB
        have E2 := Lib.hid h2
        clear h2
        go_wp2_with fail
        refine HLB.out.mono ?_
        rintro e w5 ⟨rfl, hb5⟩
        have h25 := bel_trans h24 hb5
        have hbw5 := hbw2.trans (h25.mono hbw2.size)
        clear c0 c1 c2 c3 c4 t0 t1 t2 t3 t4
        obtain ⟨⟨d0, d1, d2, d3, d4, d5, d6, d7, d8, d9, da⟩, ⟨e0, e1⟩, ⟨p0, p1, p2, p3, p4⟩, ⟨c0, c1, c2, c3, c4⟩⟩ := HBX.out w5 h25
        have HJX := HJU.out w5 hbw5
        rw [HJ.out, E1.out, E2.out] at HJX
        simp only [Bool.false_eq_true, if_true, if_false] at HJX
        have HJY := Lib.hid HJX
        clear HJX
        go_wp2_with fail
        refine HJY.out.mono ?_
        rintro e w6 ⟨rfl, hb6⟩
        go_wp2
        go_ret
        exact ⟨by simp, hbw5.trans (hb6.mono hbw5.size)⟩
  · have HJU := Lib.hid (fun W (h : Below w.heap.size w W) => aud_Judge_no c ds D n dc W (hd.below h) hn s A1 A2 n1 n2 k1 k2 (i1.below h) (i2.below h) z1 z2 step A B m k m' k' a b h0)
    have t : (nextE c ds s step == 0) = false := beq_eq_false_iff_ne.2 h0
    obtain ⟨z, hz⟩ : ∃ z, z = nextE c ds s step := ⟨_, rfl⟩
    rw [← hz] at HNE HJU t
    clear hz h0 hd i1 i2 hA hB
    go_enter Tryz.func6, Tryz.ntmps6
    go_wp2_with fail
    refine (HNE.out _ b0).mono ?_
    rintro e x1 ⟨rfl, hb1⟩
    have hbw := b0.trans (hb1.mono b0.size)
    obtain ⟨d0, d1, d2, d3, d4, d5, d6, d7, d8, d9, da⟩ := (HB0.below hb1 HB0.lt).cfg
    obtain ⟨⟨e0, e1⟩, _⟩ := (HB1.below hb1 HB1.lt).two
    obtain ⟨⟨a0, a1, a2, a3, a4⟩, _⟩ := (HBA.below hb1 HBA.lt).rec5
    obtain ⟨⟨c0, c1, c2, c3, c4⟩, _⟩ := (HBB.below hb1 HBB.lt).rec5
    go_wp2_with fail
    refine (HJU.out _ hbw).mono ?_
    rintro e x2 ⟨rfl, hb2⟩
    go_wp2
    go_ret
    exact ⟨by simp, hbw.trans (hb2.mono hbw.size)⟩

set_option maxRecDepth 100000 in
theorem auditJudges_lifted (os : Os) (started : os.Started) (H : Type) (enc : TypeId × Value → H) :
    ReturnsInHanded {} Tryz.checked os 6 .any (Rows.auditJudgesSpec.pre6 enc Tryz.prog Tryz.f6 Rows.auditJudgesRow.domain false) (Rows.auditJudgesSpec.post enc Tryz.prog Tryz.f6 false true false false) := by
  refine lift_law (fn := Tryz.f6) started (by kernel_rfl) Tryz.func6
    (ChangeSpec.witness6 (enc := enc) (C := Tryz.checked) false ⟨#[], #[.agg #[.int .i64 0, .int .i64 0, .int .i64 0, .int .u64 0, .int .i64 0, .int .i64 0, .int .i64 0, .int .i64 0, .int .i64 0, .int .i64 0, .int .i64 0], .slice none 0 0, .agg #[.slice none 0 0, .slice none 0 0], .int .i64 0, .agg #[.int .i64 0, .slice none 0 0, .int .i64 0, .int .u64 0, .int .u64 0], .agg #[.int .i64 0, .slice none 0 0, .int .i64 0, .int .u64 0, .int .u64 0]], []⟩ 8 (by kernel_rfl) (by kernel_rfl) (by kernel_rfl) (by kernel_rfl)) (by kernel_rfl) rfl Tryz.underlying4 rfl ?_ ?_
  · intro ds h
    rw [Tryz.params6] at h
    match ds, h with
    | [d0, d1, d2, d3, d4, d5], _ => rfl
  · intro W args ds ps hA hlt hval hsz
    rw [Tryz.params6] at hA hval hsz
    obtain ⟨v0, vs0, d0, ds0, p0, q0, hargs, rfl, rfl, H0, T0⟩ := trodAll_cons hA
    obtain ⟨v1, vs1, d1, ds1, p1, q1, rfl, rfl, rfl, H1, T1⟩ := trodAll_cons T0
    obtain ⟨v2, vs2, d2, ds2, p2, q2, rfl, rfl, rfl, H2, T2⟩ := trodAll_cons T1
    obtain ⟨v3, vs3, d3, ds3, p3, q3, rfl, rfl, rfl, H3, T3⟩ := trodAll_cons T2
    obtain ⟨v4, vs4, d4, ds4, p4, q4, rfl, rfl, rfl, H4, T4⟩ := trodAll_cons T3
    obtain ⟨v5, vs5, d5, ds5, p5, q5, rfl, rfl, rfl, H5, T5⟩ := trodAll_cons T4
    obtain ⟨rfl, rfl, rfl⟩ := trodAll_nil T5
    obtain rfl : args = #[v0, v1, v2, v3, v4, v5] := by cases args; simp_all
    obtain ⟨b0, hv0⟩ := hval 0 24 v0 rfl rfl
    obtain ⟨b1, hv1⟩ := hval 1 25 v1 rfl rfl
    obtain ⟨b2, hv2⟩ := hval 2 28 v2 rfl rfl
    obtain ⟨b3, hv3⟩ := hval 3 3 v3 rfl rfl
    obtain ⟨b4, hv4⟩ := hval 4 33 v4 rfl rfl
    obtain ⟨b5, hv5⟩ := hval 5 33 v5 rfl rfl
    obtain ⟨c, rfl, cw⟩ := arg_cfg hv0 H0
    obtain ⟨D, n, dc, ds, rfl, hd, hn⟩ := arg_data (j := 1) (fun _ => rfl) hv1 H1 hsz rfl rfl
    obtain ⟨A1, n1, k1, wt, A2, n2, k2, mv, rfl, ⟨i1, l1, m1, _⟩, ⟨i2, l2, m2, _⟩⟩ := arg_state (fun _ => rfl) hv2 H2
    obtain ⟨n0, rfl, _⟩ := arg_int hv3 H3
    obtain ⟨x, A, m, k, rfl, hI, _⟩ := arg_rec2 (fun _ => rfl) hv4 H4
    obtain ⟨y, B, m', k', rfl, hJ, _⟩ := arg_rec2 (fun _ => rfl) hv5 H5
    have hs := wf_u64 cw.2.2.2.1
    exact auditJudges_walk c hs.1 (by omega) D n dc ds W hd hn (wt, mv) A1 A2 n1 n2 k1 k2 i1 i2 (by unfold maxLen at *; omega) (by unfold maxLen at *; omega) l1 n0 A B m k m' k' x y hI hJ
theorem AuditJudges_holds : Rows.AuditJudgesSaid :=
  OpenClaim.holds_of_wide 6 Tryz.f6 rfl rfl rfl rfl rfl rfl rfl ⟨rfl, rfl, rfl, rfl, rfl⟩ rfl rfl rfl rfl rfl (by kernel_rfl) Tryz.func6 (by kernel_rfl)
    (of_decide_eq_true (by kernel_rfl)) (by unfold Func.isWrapper; first | (rw [if_pos (by decide +kernel)]; kernel_rfl) | (rw [if_neg (by decide +kernel)]; exact ⟨rfl, rfl⟩))
    (fun os started H enc _ => auditJudges_lifted os started H enc)

end Go.Proofs.YtaicdhjdedijoaaGreat
