/- The law SpotSays holds of the given program for every input. No condition. -/
import Derived.Test.YtcfmjpcbiomdbaaGreatSpotJ
import Derived.Test.YtcfmjpcbiomdbaaGreatRStates
import Derived.Test.YtcfmjpcbiomdbaaGreatSameS
import Derived.Test.YtcfmjpcbiomdbaaGreatArgR
namespace Go.Proofs.YtcfmjpcbiomdbaaGreat
open Go.ChangeShapes Go.WideShapes Go.ChangeAt Go.RowKit Pl

/-- What Prove answers where there is no such step. -/
def proveE (c : Cfg) (ds : Data) (step : Int) : Int := if crs c ds ≠ 0 then crs c ds else if 0 ≤ step ∧ step < c.steps then 0 else 1
set_option maxRecDepth 100000 in
set_option maxHeartbeats 2000000 in
theorem spot_Prove_no (c : Cfg) (ds : Data) (D : Option Addr) (n dc : Nat) (w : World) (hd : Duos w D n ds) (hn : n ≤ 9223372036854775806) (step : Int) (h : proveE c ds step ≠ 0) :
    Calls Tryz.prog 19 #[.agg #[.int .i64 c.ci, .int .i64 c.ch, .int .i64 c.co, .int .u64 c.seed, .int .i64 c.batch, .int .i64 c.steps, .int .i64 c.rate, .int .i64 c.decay, .int .i64 c.how, .int .i64 c.keep, .int .i64 c.clip], .slice D n dc, .int .i64 step] w fun e w' => e = .returned (.tuple #[.agg #[.slice none 0 0, .slice none 0 0], .int .i64 (proveE c ds step)]) ∧ Below w.heap.size w w' := by
  have HCK := Lib.hid (fun W (h : Below w.heap.size w W) => trn_Check c D n dc ds W (hd.below h) hn)
  have HB0 := (Blk.made w 24 #[.int .i64 c.ci, .int .i64 c.ch, .int .i64 c.co, .int .u64 c.seed, .int .i64 c.batch, .int .i64 c.steps, .int .i64 c.rate, .int .i64 c.decay, .int .i64 c.how, .int .i64 c.keep, .int .i64 c.clip]).alloc (.cells #[.slice none 0 0, .slice none 0 0] 28)
  have HB1 := Blk.made' (w.alloc (.cells #[.int .i64 c.ci, .int .i64 c.ch, .int .i64 c.co, .int .u64 c.seed, .int .i64 c.batch, .int .i64 c.steps, .int .i64 c.rate, .int .i64 c.decay, .int .i64 c.how, .int .i64 c.keep, .int .i64 c.clip] 24)) 28 #[.slice none 0 0, .slice none 0 0] (g := w.heap.size + 1) (by simp)
  have b0 : Below w.heap.size w ((w.alloc (.cells #[.int .i64 c.ci, .int .i64 c.ch, .int .i64 c.co, .int .u64 c.seed, .int .i64 c.batch, .int .i64 c.steps, .int .i64 c.rate, .int .i64 c.decay, .int .i64 c.how, .int .i64 c.keep, .int .i64 c.clip] 24)).alloc (.cells #[.slice none 0 0, .slice none 0 0] 28)) := (by repeat (first | exact Below.refl _ _ | assumption | refine bel_drewN ?_ _ | refine Below.drew ?_ | (refine Below.alloc ?_ (by simp <;> omega) _) | (refine Below.setCell ?_ (by simp <;> omega) _)))
  by_cases hC : crs c ds = 0
  · have hst : ¬ (0 ≤ step ∧ step < c.steps) := fun hh => h (by unfold proveE; rw [if_neg (by simp [hC]), if_pos hh])
    have F := Lib.hid (show proveE c ds step = 1 by unfold proveE; rw [if_neg (by simp [hC]), if_neg hst])
    have C0 := Lib.hid hC
    by_cases h1 : step < 0
    all_goals
      have h2 : step < 0 ∨ c.steps ≤ step := by omega
      have h3 : ¬ step < 0 → c.steps ≤ step := by omega
      have h4 := h3
      clear h2 h3 hC h hst
      first
        | (have h5 : c.steps ≤ step := h4 h1)
        | skip
      clear h4
      go_enter Tryz.func19, Tryz.ntmps19
      go_wp2_with fail
      refine (HCK.out _ b0).mono ?_
      rintro e x1 ⟨rfl, hb1⟩
      rw [C0.out]
      have BR := HB1.below hb1 HB1.lt
      have hbw := b0.trans (hb1.mono b0.size)
      have d5 : x1.cell? ⟨w.heap.size, 5, none⟩ = some (.int .i64 c.steps) := (HB0.below hb1 HB0.lt).cell 5
      have r0 : x1.cell? ⟨w.heap.size + 1, 0, none⟩ = some (.slice none 0 0) := BR.cell 0
      have r1 : x1.cell? ⟨w.heap.size + 1, 1, none⟩ = some (.slice none 0 0) := BR.cell 1
      have r2 := BR.frozen 0
      have r3 := BR.frozen 1
      have hlr := BR.lt
      have hbf := (hbw.setCell (p := ⟨w.heap.size + 1, 0, none⟩) (by simp) (.slice none 0 0)).setCell (p := ⟨w.heap.size + 1, 1, none⟩) (by simp) (.slice none 0 0)
      go_wp2
      refine bodyPost_ret (v := .tuple #[.agg #[.slice none 0 0, .slice none 0 0], .int .i64 1]) (by simp [results, Tryz.results19, go_sem, r0, r1]) rfl ?_
      rw [F.out]
      exact ⟨rfl, hbf⟩
  · have F := Lib.hid (show proveE c ds step = crs c ds from if_pos hC)
    have t : (crs c ds != 0) = true := by rw [bne_iff_ne]; exact hC
    obtain ⟨z, hz⟩ : ∃ z, z = crs c ds := ⟨_, rfl⟩
    rw [← hz] at F t HCK
    clear hz hC h
    go_enter Tryz.func19, Tryz.ntmps19
    go_wp2_with fail
    refine (HCK.out _ b0).mono ?_
    rintro e x1 ⟨rfl, hb1⟩
    have BR := HB1.below hb1 HB1.lt
    have hbw := b0.trans (hb1.mono b0.size)
    have r0 : x1.cell? ⟨w.heap.size + 1, 0, none⟩ = some (.slice none 0 0) := BR.cell 0
    have r1 : x1.cell? ⟨w.heap.size + 1, 1, none⟩ = some (.slice none 0 0) := BR.cell 1
    have r2 := BR.frozen 0
    have r3 := BR.frozen 1
    have hlr := BR.lt
    have hbf := (hbw.setCell (p := ⟨w.heap.size + 1, 0, none⟩) (by simp) (.slice none 0 0)).setCell (p := ⟨w.heap.size + 1, 1, none⟩) (by simp) (.slice none 0 0)
    go_wp2
    refine bodyPost_ret (v := .tuple #[.agg #[.slice none 0 0, .slice none 0 0], .int .i64 z]) (by simp [results, Tryz.results19, go_sem, r0, r1]) rfl ?_
    rw [F.out]
    exact ⟨rfl, hbf⟩

theorem holdsB_like (c : Cfg) (ds : Data) (s : List Int × List Int) (k : Nat) (root : Int) (r : Rec) : holdsB c ds s k root r = ((rootS s == root % 2305843009213693951) && likeR (recN c ds s k) r) := by
  unfold holdsB likeR recN
  have e1 : (r.step == (k : Int)) = ((k : Int) == r.step) := BEq.comm
  have e2 : (r.rate == ratI c k) = (ratI c k == r.rate) := BEq.comm
  have e3 : (r.root == rootS (nextS c ds s k)) = (rootS (nextS c ds s k) == r.root) := BEq.comm
  have e4 : decide (r.batch = (batI c ds k).map fun (n : Nat) => (n : Int)) = decide (((batI c ds k).map fun (n : Nat) => (n : Int)) = r.batch) := by simp only [eq_comm]
  rw [e1, e2, e3, e4]
  cases rootS s == root % 2305843009213693951 <;> cases (k : Int) == r.step <;> cases ratI c k == r.rate <;> cases rootS (nextS c ds s k) == r.root <;> cases decide (((batI c ds k).map fun (n : Nat) => (n : Int)) = r.batch) <;> rfl

set_option maxRecDepth 100000 in
set_option maxHeartbeats 6000000 in
theorem spotSays_walk (c : Cfg) (s0 : 0 ≤ c.seed) (s1 : c.seed < 18446744073709551616) (D : Option Addr) (n dc : Nat) (ds : Data) (w : World) (hd : Duos w D n ds) (hn : n ≤ 9223372036854775806) (step root : Int) (hr0 : 0 ≤ root) (s : List Int × List Int) (A1 A2 : Option Addr) (n1 n2 k1 k2 : Nat) (i1 : Ints .i64 w A1 n1 s.1) (i2 : Ints .i64 w A2 n2 s.2) (z1 : n1 ≤ 9223372036854775807) (z2 : n2 ≤ 9223372036854775807) (hk1 : n1 ≤ k1)
    (A : Option Addr) (m k : Nat) (r : Rec) (hI : Ints .i64 w A m r.batch) :
    Calls Tryz.prog 4 #[.agg #[.int .i64 c.ci, .int .i64 c.ch, .int .i64 c.co, .int .u64 c.seed, .int .i64 c.batch, .int .i64 c.steps, .int .i64 c.rate, .int .i64 c.decay, .int .i64 c.how, .int .i64 c.keep, .int .i64 c.clip], .slice D n dc, .int .i64 step, .int .u64 root, .agg #[.slice A1 n1 k1, .slice A2 n2 k2], .agg #[.int .i64 r.step, .slice A m k, .int .i64 r.rate, .int .u64 r.root, .int .u64 r.chain]] w fun e w' => e = .returned (.bool true) ∧ Below w.heap.size w w' := by
  have HB0 := ((Blk.made w 24 #[.int .i64 c.ci, .int .i64 c.ch, .int .i64 c.co, .int .u64 c.seed, .int .i64 c.batch, .int .i64 c.steps, .int .i64 c.rate, .int .i64 c.decay, .int .i64 c.how, .int .i64 c.keep, .int .i64 c.clip]).alloc (.cells #[.slice A1 n1 k1, .slice A2 n2 k2] 28)).alloc (.cells #[.int .i64 r.step, .slice A m k, .int .i64 r.rate, .int .u64 r.root, .int .u64 r.chain] 33)
  have HB1 := (Blk.made' (w.alloc (.cells #[.int .i64 c.ci, .int .i64 c.ch, .int .i64 c.co, .int .u64 c.seed, .int .i64 c.batch, .int .i64 c.steps, .int .i64 c.rate, .int .i64 c.decay, .int .i64 c.how, .int .i64 c.keep, .int .i64 c.clip] 24)) 28 #[.slice A1 n1 k1, .slice A2 n2 k2] (g := w.heap.size + 1) (by simp)).alloc (.cells #[.int .i64 r.step, .slice A m k, .int .i64 r.rate, .int .u64 r.root, .int .u64 r.chain] 33)
  have HB2 := Blk.made' ((w.alloc (.cells #[.int .i64 c.ci, .int .i64 c.ch, .int .i64 c.co, .int .u64 c.seed, .int .i64 c.batch, .int .i64 c.steps, .int .i64 c.rate, .int .i64 c.decay, .int .i64 c.how, .int .i64 c.keep, .int .i64 c.clip] 24)).alloc (.cells #[.slice A1 n1 k1, .slice A2 n2 k2] 28)) 33 #[.int .i64 r.step, .slice A m k, .int .i64 r.rate, .int .u64 r.root, .int .u64 r.chain] (g := w.heap.size + 1 + 1) (by simp)
  have b0 : Below w.heap.size w (((w.alloc (.cells #[.int .i64 c.ci, .int .i64 c.ch, .int .i64 c.co, .int .u64 c.seed, .int .i64 c.batch, .int .i64 c.steps, .int .i64 c.rate, .int .i64 c.decay, .int .i64 c.how, .int .i64 c.keep, .int .i64 c.clip] 24)).alloc (.cells #[.slice A1 n1 k1, .slice A2 n2 k2] 28)).alloc (.cells #[.int .i64 r.step, .slice A m k, .int .i64 r.rate, .int .u64 r.root, .int .u64 r.chain] 33)) := (by repeat (first | exact Below.refl _ _ | assumption | refine bel_drewN ?_ _ | refine Below.drew ?_ | (refine Below.alloc ?_ (by simp <;> omega) _) | (refine Below.setCell ?_ (by simp <;> omega) _)))
  have HCO := Lib.hid (fun W (h : Below w.heap.size w W) => ref_Course c D n dc ds W (hd.below h) hn)
  have HNE := Lib.hid (fun W (h : Below w.heap.size w W) => law_nextError c ds D n dc W (hd.below h) hn s A1 A2 n1 n2 k1 k2 (i1.below h) (i2.below h) z1 z2 step)
  have HPN := Lib.hid (fun W (h : Below w.heap.size w W) (hp : proveE c ds step ≠ 0) => spot_Prove_no c ds D n dc W (hd.below h) hn step hp)
  have HSM0 := Lib.hid (fun W => ref_SameState ([], []) ([], []) none none none none 0 0 0 0 0 0 0 0 W (Ints.nil _ _ _) (Ints.nil _ _ _) (Ints.nil _ _ _) (Ints.nil _ _ _) (.inl (by omega)) (.inl (by omega)))
  rw [show sameS (([], []) : List Int × List Int) ([], []) = true from rfl] at HSM0
  obtain ⟨x, hX⟩ : ∃ x, x = (((w.alloc (.cells #[.int .i64 c.ci, .int .i64 c.ch, .int .i64 c.co, .int .u64 c.seed, .int .i64 c.batch, .int .i64 c.steps, .int .i64 c.rate, .int .i64 c.decay, .int .i64 c.how, .int .i64 c.keep, .int .i64 c.clip] 24)).alloc (.cells #[.slice A1 n1 k1, .slice A2 n2 k2] 28)).alloc (.cells #[.int .i64 r.step, .slice A m k, .int .i64 r.rate, .int .u64 r.root, .int .u64 r.chain] 33)) := ⟨_, rfl⟩
  rw [← hX] at HB0 HB1 HB2 b0
  have HX := Lib.hid hX
  have lx := HB2.lt
  clear hX
  have HBX := Lib.hid (fun W (h : Below x.heap.size x W) => (⟨(HB0.below h (by omega)).cfg, (HB1.below h (by omega)).two.1, (HB2.below h (by omega)).rec5.1⟩ :
      (W.cell? ⟨w.heap.size, 0, none⟩ = some (.int .i64 c.ci) ∧ W.cell? ⟨w.heap.size, 1, none⟩ = some (.int .i64 c.ch) ∧ W.cell? ⟨w.heap.size, 2, none⟩ = some (.int .i64 c.co) ∧ W.cell? ⟨w.heap.size, 3, none⟩ = some (.int .u64 c.seed) ∧ W.cell? ⟨w.heap.size, 4, none⟩ = some (.int .i64 c.batch) ∧ W.cell? ⟨w.heap.size, 5, none⟩ = some (.int .i64 c.steps) ∧ W.cell? ⟨w.heap.size, 6, none⟩ = some (.int .i64 c.rate) ∧ W.cell? ⟨w.heap.size, 7, none⟩ = some (.int .i64 c.decay) ∧ W.cell? ⟨w.heap.size, 8, none⟩ = some (.int .i64 c.how) ∧ W.cell? ⟨w.heap.size, 9, none⟩ = some (.int .i64 c.keep) ∧ W.cell? ⟨w.heap.size, 10, none⟩ = some (.int .i64 c.clip)) ∧ (W.cell? ⟨w.heap.size + 1, 0, none⟩ = some (.slice A1 n1 k1) ∧ W.cell? ⟨w.heap.size + 1, 1, none⟩ = some (.slice A2 n2 k2)) ∧
      (W.cell? ⟨w.heap.size + 1 + 1, 0, none⟩ = some (.int .i64 r.step) ∧ W.cell? ⟨w.heap.size + 1 + 1, 1, none⟩ = some (.slice A m k) ∧ W.cell? ⟨w.heap.size + 1 + 1, 2, none⟩ = some (.int .i64 r.rate) ∧ W.cell? ⟨w.heap.size + 1 + 1, 3, none⟩ = some (.int .u64 r.root) ∧ W.cell? ⟨w.heap.size + 1 + 1, 4, none⟩ = some (.int .u64 r.chain))))
  have HLX := Lib.hid (fun W (h : Below x.heap.size x W) => (⟨by have := h.size; omega, by have := h.size; omega, by have := h.size; omega⟩ : w.heap.size < W.heap.size ∧ w.heap.size + 1 < W.heap.size ∧ w.heap.size + 1 + 1 < W.heap.size))
  by_cases hN : nextE c ds s step = 0
  · obtain ⟨hC, hF, q1, q2⟩ := nextE_0 hN
    have hf := fine hC
    have hba := hf.ok.ba
    have hst := hf.ok.st
    have n40 := hf.ok.n40
    obtain ⟨j, rfl⟩ : ∃ j : Nat, step = (j : Int) := ⟨step.toNat, by omega⟩
    obtain ⟨f1, f2, _, _⟩ := fits_iff.1 hF
    have e1 : n1 = c.N := by rw [← i1.len]; exact f1
    have e2 : n2 = c.N := by rw [← i2.len]; exact f2
    have HRN := Lib.hid (fun W (h : Below w.heap.size w W) => ref_Next c ds hf s0 s1 D n dc W (hd.below h) s hF A1 A2 k1 k2 (e1 ▸ i1.below h) (e2 ▸ i2.below h) (e1 ▸ hk1) j q2)
    have HHO := Lib.hid (fun W (h : Below w.heap.size w W) => spot_Holds_ok c ds hC s0 s1 D n dc W (hd.below h) s hF A1 A2 k1 k2 (e1 ▸ i1.below h) (e2 ▸ i2.below h) (e1 ▸ hk1) j q2 root hr0 A m k r (hI.below h))
    have HRT := Lib.hid (fun W (h : Below w.heap.size w W) => rroot_fine c hf.ok s A1 A2 k1 k2 W (e1 ▸ i1.below h) (e2 ▸ i2.below h))
    have HST := Lib.hid (fun W (h : Below w.heap.size w W) => ref_States c ds hf s0 s1 D n dc W (hd.below h) j (by omega))
    have HPK := Lib.hid (fun W (h : Below w.heap.size w W) => spot_Prove c ds hC s0 s1 D n dc W (hd.below h) j q2)
    have HL1 := Lib.hid (states_len1 c ds)
    have HL2 := Lib.hid (states_len2 c ds)
    have HBL := Lib.hid (show ((batI c ds j).map fun (n : Nat) => (n : Int)).length = c.batch.toNat by rw [List.length_map, batI_length])
    have HLK := Lib.hid (fun W (h : Below w.heap.size w W) (E : Option Addr) (d : Nat) (hE : Ints .i64 W E c.batch.toNat ((batI c ds j).map fun (n : Nat) => (n : Int))) => show Calls Tryz.prog 22 #[.agg #[.int .i64 j, .slice E c.batch.toNat d, .int .i64 (ratI c j), .int .u64 (rootS (nextS c ds s j)), .int .u64 0], .agg #[.int .i64 r.step, .slice A m k, .int .i64 r.rate, .int .u64 r.root, .int .u64 r.chain]] W (fun e w' => e = .returned (.bool (likeR (recN c ds s j) r)) ∧ Below W.heap.size W w') from ref_Like (recN c ds s j) r E A c.batch.toNat d m k W hE (hI.below h) (.inl (by omega)))
    have HHL := Lib.hid (holdsB_like c ds s j root r)
    have HC0 := Lib.hid hC
    have HS := Lib.hid (show IntKind.i64.wrap (c.steps - 1) = c.steps - 1 from wrap_small _ (by omega) (by omega))
    have HI := Lib.hid (fun W => ref_In j 0 (c.steps - 1) W)
    rw [show inB (j : Int) 0 (c.steps - 1) = true from inB_iff.2 (by omega)] at HI
    rw [hN] at HNE
    rw [← e1] at HRN HHO HRT
    rw [show (.slice A2 n1 k2 : Value) = .slice A2 n2 k2 by rw [e1, e2]] at HRN HHO HRT
    obtain ⟨st, hst'⟩ : ∃ st, st = states c ds := ⟨_, rfl⟩
    rw [← hst'] at HST HPK HL1 HL2
    obtain ⟨xm, hxm⟩ : ∃ xm, root % 2305843009213693951 = xm := ⟨_, rfl⟩
    have hxt : root.tmod 2305843009213693951 = xm := by rw [Int.tmod_eq_emod_of_nonneg hr0]; exact hxm
    rw [hxm] at HHL
    obtain ⟨rs, hrs⟩ : ∃ rs, rs = rootS s := ⟨_, rfl⟩
    rw [← hrs] at HHL HRT
    obtain ⟨xr, hxr⟩ : ∃ xr, xr = recN c ds s j := ⟨_, rfl⟩
    rw [← hxr] at HHL HLK
    obtain ⟨ro, hro⟩ : ∃ ro, ro = rootS (nextS c ds s j) := ⟨_, rfl⟩
    have HRO := Lib.hid hro
    rw [← hro] at HLK
    clear hst' hxm hrs hxr hro hC hF hf f1 f2 hN hd i1 i2 e1 e2 hI
    go_enter Tryz.func4, Tryz.ntmps4
    go_upto_region 1 with fail
    rw [← HX.out]
    obtain ⟨⟨d0, d1, d2, d3, d4, d5, d6, d7, d8, d9, da⟩, ⟨e0, e1⟩, ⟨a0, a1, a2, a3, a4⟩⟩ := HBX.out x (Below.refl _ _)
    obtain ⟨l0, l1, l2⟩ := HLX.out x (Below.refl _ _)
    go_wp2_with fail
    refine (HCO.out x b0).mono ?_
    rintro e x1 ⟨rfl, hb1⟩
    clear d0 d1 d2 d3 d4 d5 d6 d7 d8 d9 da e0 e1 a0 a1 a2 a3 a4 l0 l1 l2
    obtain ⟨⟨d0, d1, d2, d3, d4, d5, d6, d7, d8, d9, da⟩, ⟨e0, e1⟩, ⟨a0, a1, a2, a3, a4⟩⟩ := HBX.out x1 hb1
    obtain ⟨l0, l1, l2⟩ := HLX.out x1 hb1
    have hw1 := b0.trans (hb1.mono b0.size)
    rw [HC0.out]
    go_wp2_with fail
    try rw [HS.out]
    (with_reducible refine (HI.out _).mono ?_)
    rintro e w' ⟨rfl, rfl⟩
    have h1A : Below x.heap.size x (x1.alloc (.cells #[.slice none 0 0, .slice none 0 0] 28)) := hb1.alloc hb1.size _
    have hw1A := b0.trans (h1A.mono b0.size)
    go_wp2_with fail
    refine (HST.out _ hw1A).mono ?_
    rintro e x2 ⟨g, gc, rfl, hR, hb2⟩
    have hx2 : Below x.heap.size x x2 := bel_trans h1A hb2
    have BZ : Blk x2 x1.heap.size 28 #[.slice none 0 0, .slice none 0 0] := (Blk.made x1 28 #[.slice none 0 0, .slice none 0 0]).below hb2 (by simp)
    obtain ⟨B1, q1, B2, q2, m0, m1, J1, J2, lq, lg⟩ := StHeld.at' hR (j := j) (by omega) (HL1.out j) (HL2.out j)
    have hgb := (hR.lt g rfl).1
    have k0 : (0 : Int) ≤ (j : Int) := by omega
    have kk1 : (j : Int) < (j : Int) + 1 := by omega
    have G1 := ints_off (ints_off J1 BZ 0 (.slice B1 c.N q1)) (BZ.put 0 (.slice B1 c.N q1)) 1 (.slice B2 c.N q2)
    have G2 := ints_off (ints_off J2 BZ 0 (.slice B1 c.N q1)) (BZ.put 0 (.slice B1 c.N q1)) 1 (.slice B2 c.N q2)
    have BY := (BZ.put 0 (.slice B1 c.N q1)).put 1 (.slice B2 c.N q2)
    have hxY : Below x.heap.size x ((x2.setCell ⟨x1.heap.size, 0, none⟩ (.slice B1 c.N q1)).setCell ⟨x1.heap.size, 1, none⟩ (.slice B2 c.N q2)) := (hx2.setCell (p := ⟨x1.heap.size, 0, none⟩) hb1.size (.slice B1 c.N q1)).setCell (p := ⟨x1.heap.size, 1, none⟩) hb1.size (.slice B2 c.N q2)
    obtain ⟨⟨b0', b1'⟩, b2', b3'⟩ := BZ.two
    have lz := BZ.lt
    have ng : g ≠ x1.heap.size := by simp at hgb; omega
    have ng' : x1.heap.size ≠ g := fun e => ng e.symm
    have nw0 : w.heap.size ≠ x1.heap.size := by omega
    have nw1 : x1.heap.size ≠ w.heap.size := by omega
    obtain ⟨y, hy⟩ : ∃ y, y = ((x2.setCell ⟨x1.heap.size, 0, none⟩ (.slice B1 c.N q1)).setCell ⟨x1.heap.size, 1, none⟩ (.slice B2 c.N q2)) := ⟨_, rfl⟩
    rw [← hy] at G1 G2 BY hxY
    have HY := Lib.hid hy
    have hwY := b0.trans (hxY.mono b0.size)
    clear hR J1 J2 hgb hy
    clear d0 d1 d2 d3 d4 d5 d6 d7 d8 d9 da e0 e1 a0 a1 a2 a3 a4 l0 l1 l2
    obtain ⟨⟨d0, d1, d2, d3, d4, d5, d6, d7, d8, d9, da⟩, ⟨e0, e1⟩, ⟨a0, a1, a2, a3, a4⟩⟩ := HBX.out x2 hx2
    obtain ⟨l0, l1, l2⟩ := HLX.out x2 hx2
    go_wp2_with fail
    rw [← HY.out]
    refine (HPK.out y hwY).mono ?_
    rintro e x3 ⟨C1, p1, C2, p2, rfl, K1, K2, lp, hb3⟩
    have hx3 : Below x.heap.size x x3 := bel_trans hxY hb3
    have BY3 : Blk x3 x1.heap.size 28 #[.slice B1 c.N q1, .slice B2 c.N q2] := Blk.below (t := 28) (cs := #[.slice B1 c.N q1, .slice B2 c.N q2]) BY hb3 (by have := hxY.size; have := Blk.lt BY; omega)
    have h3A : Below x3.heap.size x3 (x3.alloc (.cells #[.slice C1 c.N p1, .slice C2 c.N p2] 28)) := (Below.refl _ _).alloc (Nat.le_refl _) _
    have HSM := Lib.hid (ref_SameState (st j) (st j) C1 C2 B1 B2 c.N c.N c.N c.N p1 p2 q1 q2 (x3.alloc (.cells #[.slice C1 c.N p1, .slice C2 c.N p2] 28)) (K1.below h3A) (K2.below h3A) ((G1.below hb3).below h3A) ((G2.below hb3).below h3A) (.inl (by omega)) (.inl (by omega)))
    rw [show sameS (st j) (st j) = true from by simp [sameS]] at HSM
    have hx3A : Below x.heap.size x (x3.alloc (.cells #[.slice C1 c.N p1, .slice C2 c.N p2] 28)) := hx3.alloc hx3.size _
    obtain ⟨⟨u0, u1'⟩, _⟩ := BY3.two
    have lz3 := BY3.lt
    clear b0' b1' b2' b3' lz m0 m1 G1 G2 K1 K2 BY BZ
    clear d0 d1 d2 d3 d4 d5 d6 d7 d8 d9 da e0 e1 a0 a1 a2 a3 a4 l0 l1 l2
    go_wp2_with fail
    refine HSM.out.mono ?_
    rintro e x4 ⟨rfl, hb4⟩
    have hx4 : Below x.heap.size x x4 := bel_trans hx3A hb4
    have hw4 := b0.trans (hx4.mono b0.size)
    clear u0 u1' lz3
    obtain ⟨⟨d0, d1, d2, d3, d4, d5, d6, d7, d8, d9, da⟩, ⟨e0, e1⟩, ⟨a0, a1, a2, a3, a4⟩⟩ := HBX.out x4 hx4
    obtain ⟨l0, l1, l2⟩ := HLX.out x4 hx4
    go_wp2_with fail
    refine (HNE.out x4 hw4).mono ?_
    rintro e y1 ⟨rfl, hc1⟩
    have hy1 : Below x.heap.size x y1 := bel_trans hx4 hc1
    have hv1 := b0.trans (hy1.mono b0.size)
    clear d0 d1 d2 d3 d4 d5 d6 d7 d8 d9 da e0 e1 a0 a1 a2 a3 a4 l0 l1 l2
    obtain ⟨⟨d0, d1, d2, d3, d4, d5, d6, d7, d8, d9, da⟩, ⟨e0, e1⟩, ⟨a0, a1, a2, a3, a4⟩⟩ := HBX.out y1 hy1
    obtain ⟨l0, l1, l2⟩ := HLX.out y1 hy1
    go_wp2_with fail
    refine (HRN.out y1 hv1).mono ?_
    rintro e y2 ⟨D1, r1, D2, r2, E, ec, rfl, O1, O2, O3, hc2⟩
    rw [← HRO.out]
    have hy2 : Below x.heap.size x y2 := bel_trans hy1 hc2
    have I3 := Ints.of_own O3 HBL.out
    have bA : Below y2.heap.size y2 ((y2.alloc (.cells #[.slice D1 c.N r1, .slice D2 c.N r2] 28)).alloc (.cells #[.int .i64 j, .slice E c.batch.toNat ec, .int .i64 (ratI c j), .int .u64 ro, .int .u64 0] 33)) := (by repeat (first | exact Below.refl _ _ | assumption | refine bel_drewN ?_ _ | refine Below.drew ?_ | (refine Below.alloc ?_ (by simp <;> omega) _) | (refine Below.setCell ?_ (by simp <;> omega) _)))
    have BR := Blk.made' (y2.alloc (.cells #[.slice D1 c.N r1, .slice D2 c.N r2] 28)) 33 #[.int .i64 j, .slice E c.batch.toNat ec, .int .i64 (ratI c j), .int .u64 ro, .int .u64 0] (g := y2.heap.size + 1) (by simp)
    have hy2A : Below x.heap.size x _ := bel_trans hy2 bA
    have hv2 := b0.trans (hy2A.mono b0.size)
    clear O1 O2 O3
    clear d0 d1 d2 d3 d4 d5 d6 d7 d8 d9 da e0 e1 a0 a1 a2 a3 a4 l0 l1 l2
    obtain ⟨⟨d0, d1, d2, d3, d4, d5, d6, d7, d8, d9, da⟩, ⟨e0, e1⟩, ⟨a0, a1, a2, a3, a4⟩⟩ := HBX.out y2 hy2
    obtain ⟨l0, l1, l2⟩ := HLX.out y2 hy2
    go_wp2_with fail
    refine (HRT.out _ hv2).mono ?_
    rintro e y3 ⟨rfl, hc3⟩
    have hy3 : Below x.heap.size x y3 := bel_trans hy2A hc3
    have hv3 := b0.trans (hy3.mono b0.size)
    obtain ⟨⟨t0, t1, t2, t3, t4⟩, _⟩ := (BR.below hc3 BR.lt).rec5
    have HLKX := Lib.hid (HLK.out y3 hv3 E ec ((I3.below bA).below hc3))
    clear d0 d1 d2 d3 d4 d5 d6 d7 d8 d9 da e0 e1 a0 a1 a2 a3 a4 l0 l1 l2
    obtain ⟨⟨d0, d1, d2, d3, d4, d5, d6, d7, d8, d9, da⟩, ⟨e0, e1⟩, ⟨a0, a1, a2, a3, a4⟩⟩ := HBX.out y3 hy3
    obtain ⟨l0, l1, l2⟩ := HLX.out y3 hy3
    cases g1 : (rs == xm)
    · have F := Lib.hid (show holdsB c ds s j root r = false by rw [HHL.out, g1]; rfl)
      rw [F.out] at HHO
      go_wp2_with fail
      refine (HHO.out y3 hv3).mono ?_
      rintro e y4 ⟨rfl, hc4⟩
      go_wp2
      go_ret
      exact ⟨by simp, hv3.trans (hc4.mono hv3.size)⟩
    · cases g2 : likeR xr r
      all_goals
        have F := Lib.hid (show holdsB c ds s j root r = likeR xr r by rw [HHL.out, g1]; rfl)
        rw [F.out, g2] at HHO
        rw [g2] at HLKX
        clear g2
        go_wp2_with fail
        refine HLKX.out.mono ?_
        rintro e y4 ⟨rfl, hc4⟩
        have hy4 : Below x.heap.size x y4 := bel_trans hy3 hc4
        have hv4 := b0.trans (hy4.mono b0.size)
        clear t0 t1 t2 t3 t4
        clear d0 d1 d2 d3 d4 d5 d6 d7 d8 d9 da e0 e1 a0 a1 a2 a3 a4 l0 l1 l2
        obtain ⟨⟨d0, d1, d2, d3, d4, d5, d6, d7, d8, d9, da⟩, ⟨e0, e1⟩, ⟨a0, a1, a2, a3, a4⟩⟩ := HBX.out y4 hy4
        obtain ⟨l0, l1, l2⟩ := HLX.out y4 hy4
        go_wp2_with fail
        refine (HHO.out y4 hv4).mono ?_
        rintro e y5 ⟨rfl, hc5⟩
        go_wp2
        go_ret
        exact ⟨by simp, hv4.trans (hc5.mono hv4.size)⟩
  · have HHN := Lib.hid (fun W (h : Below w.heap.size w W) => spot_Holds_no c ds D n dc W (hd.below h) hn s A1 A2 n1 n2 k1 k2 (i1.below h) (i2.below h) z1 z2 step root A m k r hN)
    have tN : (nextE c ds s step == 0) = false := beq_eq_false_iff_ne.2 hN
    by_cases hC : crs c ds = 0
    · have hf := fine hC
      have hst := hf.ok.st
      have HC0 := Lib.hid hC
      have HS := Lib.hid (show IntKind.i64.wrap (c.steps - 1) = c.steps - 1 from wrap_small _ (by omega) (by omega))
      have HI := Lib.hid (fun W => ref_In step 0 (c.steps - 1) W)
      by_cases h3 : 0 ≤ step ∧ step < c.steps
      · have n40 := hf.ok.n40
        obtain ⟨j, rfl⟩ : ∃ j : Nat, step = (j : Int) := ⟨step.toNat, by omega⟩
        have q2 := h3.2
        have HST := Lib.hid (fun W (h : Below w.heap.size w W) => ref_States c ds hf s0 s1 D n dc W (hd.below h) j (by omega))
        have HPK := Lib.hid (fun W (h : Below w.heap.size w W) => spot_Prove c ds hC s0 s1 D n dc W (hd.below h) j q2)
        have HL1 := Lib.hid (states_len1 c ds)
        have HL2 := Lib.hid (states_len2 c ds)
        rw [show inB (j : Int) 0 (c.steps - 1) = true from inB_iff.2 (by omega)] at HI
        obtain ⟨st, hst'⟩ : ∃ st, st = states c ds := ⟨_, rfl⟩
        rw [← hst'] at HST HPK HL1 HL2
        obtain ⟨z, hz⟩ : ∃ z, z = nextE c ds s (j : Int) := ⟨_, rfl⟩
        rw [← hz] at HNE HHN tN
        clear hst' hz hC hf hN hd i1 i2 hI h3
        go_enter Tryz.func4, Tryz.ntmps4
        go_upto_region 1 with fail
        rw [← HX.out]
        obtain ⟨⟨d0, d1, d2, d3, d4, d5, d6, d7, d8, d9, da⟩, ⟨e0, e1⟩, ⟨a0, a1, a2, a3, a4⟩⟩ := HBX.out x (Below.refl _ _)
        obtain ⟨l0, l1, l2⟩ := HLX.out x (Below.refl _ _)
        go_wp2_with fail
        refine (HCO.out x b0).mono ?_
        rintro e x1 ⟨rfl, hb1⟩
        clear d0 d1 d2 d3 d4 d5 d6 d7 d8 d9 da e0 e1 a0 a1 a2 a3 a4 l0 l1 l2
        obtain ⟨⟨d0, d1, d2, d3, d4, d5, d6, d7, d8, d9, da⟩, ⟨e0, e1⟩, ⟨a0, a1, a2, a3, a4⟩⟩ := HBX.out x1 hb1
        obtain ⟨l0, l1, l2⟩ := HLX.out x1 hb1
        have hw1 := b0.trans (hb1.mono b0.size)
        rw [HC0.out]
        go_wp2_with fail
        try rw [HS.out]
        (with_reducible refine (HI.out _).mono ?_)
        rintro e w' ⟨rfl, rfl⟩
        have h1A : Below x.heap.size x (x1.alloc (.cells #[.slice none 0 0, .slice none 0 0] 28)) := hb1.alloc hb1.size _
        have hw1A := b0.trans (h1A.mono b0.size)
        go_wp2_with fail
        refine (HST.out _ hw1A).mono ?_
        rintro e x2 ⟨g, gc, rfl, hR, hb2⟩
        have hx2 : Below x.heap.size x x2 := bel_trans h1A hb2
        have BZ : Blk x2 x1.heap.size 28 #[.slice none 0 0, .slice none 0 0] := (Blk.made x1 28 #[.slice none 0 0, .slice none 0 0]).below hb2 (by simp)
        obtain ⟨B1, q1, B2, q2, m0, m1, J1, J2, lq, lg⟩ := StHeld.at' hR (j := j) (by omega) (HL1.out j) (HL2.out j)
        have hgb := (hR.lt g rfl).1
        have k0 : (0 : Int) ≤ (j : Int) := by omega
        have kk1 : (j : Int) < (j : Int) + 1 := by omega
        have G1 := ints_off (ints_off J1 BZ 0 (.slice B1 c.N q1)) (BZ.put 0 (.slice B1 c.N q1)) 1 (.slice B2 c.N q2)
        have G2 := ints_off (ints_off J2 BZ 0 (.slice B1 c.N q1)) (BZ.put 0 (.slice B1 c.N q1)) 1 (.slice B2 c.N q2)
        have BY := (BZ.put 0 (.slice B1 c.N q1)).put 1 (.slice B2 c.N q2)
        have hxY : Below x.heap.size x ((x2.setCell ⟨x1.heap.size, 0, none⟩ (.slice B1 c.N q1)).setCell ⟨x1.heap.size, 1, none⟩ (.slice B2 c.N q2)) := (hx2.setCell (p := ⟨x1.heap.size, 0, none⟩) hb1.size (.slice B1 c.N q1)).setCell (p := ⟨x1.heap.size, 1, none⟩) hb1.size (.slice B2 c.N q2)
        obtain ⟨⟨b0', b1'⟩, b2', b3'⟩ := BZ.two
        have lz := BZ.lt
        have ng : g ≠ x1.heap.size := by simp at hgb; omega
        have ng' : x1.heap.size ≠ g := fun e => ng e.symm
        have nw0 : w.heap.size ≠ x1.heap.size := by omega
        have nw1 : x1.heap.size ≠ w.heap.size := by omega
        obtain ⟨y, hy⟩ : ∃ y, y = ((x2.setCell ⟨x1.heap.size, 0, none⟩ (.slice B1 c.N q1)).setCell ⟨x1.heap.size, 1, none⟩ (.slice B2 c.N q2)) := ⟨_, rfl⟩
        rw [← hy] at G1 G2 BY hxY
        have HY := Lib.hid hy
        have hwY := b0.trans (hxY.mono b0.size)
        clear hR J1 J2 hgb hy
        clear d0 d1 d2 d3 d4 d5 d6 d7 d8 d9 da e0 e1 a0 a1 a2 a3 a4 l0 l1 l2
        obtain ⟨⟨d0, d1, d2, d3, d4, d5, d6, d7, d8, d9, da⟩, ⟨e0, e1⟩, ⟨a0, a1, a2, a3, a4⟩⟩ := HBX.out x2 hx2
        obtain ⟨l0, l1, l2⟩ := HLX.out x2 hx2
        go_wp2_with fail
        rw [← HY.out]
        refine (HPK.out y hwY).mono ?_
        rintro e x3 ⟨C1, p1, C2, p2, rfl, K1, K2, lp, hb3⟩
        have hx3 : Below x.heap.size x x3 := bel_trans hxY hb3
        have BY3 : Blk x3 x1.heap.size 28 #[.slice B1 c.N q1, .slice B2 c.N q2] := Blk.below (t := 28) (cs := #[.slice B1 c.N q1, .slice B2 c.N q2]) BY hb3 (by have := hxY.size; have := Blk.lt BY; omega)
        have h3A : Below x3.heap.size x3 (x3.alloc (.cells #[.slice C1 c.N p1, .slice C2 c.N p2] 28)) := (Below.refl _ _).alloc (Nat.le_refl _) _
        have HSM := Lib.hid (ref_SameState (st j) (st j) C1 C2 B1 B2 c.N c.N c.N c.N p1 p2 q1 q2 (x3.alloc (.cells #[.slice C1 c.N p1, .slice C2 c.N p2] 28)) (K1.below h3A) (K2.below h3A) ((G1.below hb3).below h3A) ((G2.below hb3).below h3A) (.inl (by omega)) (.inl (by omega)))
        rw [show sameS (st j) (st j) = true from by simp [sameS]] at HSM
        have hx3A : Below x.heap.size x (x3.alloc (.cells #[.slice C1 c.N p1, .slice C2 c.N p2] 28)) := hx3.alloc hx3.size _
        obtain ⟨⟨u0, u1'⟩, _⟩ := BY3.two
        have lz3 := BY3.lt
        clear b0' b1' b2' b3' lz m0 m1 G1 G2 K1 K2 BY BZ
        clear d0 d1 d2 d3 d4 d5 d6 d7 d8 d9 da e0 e1 a0 a1 a2 a3 a4 l0 l1 l2
        go_wp2_with fail
        refine HSM.out.mono ?_
        rintro e x4 ⟨rfl, hb4⟩
        have hx4 : Below x.heap.size x x4 := bel_trans hx3A hb4
        have hw4 := b0.trans (hx4.mono b0.size)
        clear u0 u1' lz3
        obtain ⟨⟨d0, d1, d2, d3, d4, d5, d6, d7, d8, d9, da⟩, ⟨e0, e1⟩, ⟨a0, a1, a2, a3, a4⟩⟩ := HBX.out x4 hx4
        obtain ⟨l0, l1, l2⟩ := HLX.out x4 hx4
        go_wp2_with fail
        refine (HNE.out x4 hw4).mono ?_
        rintro e y1 ⟨rfl, hc1⟩
        have hy1 : Below x.heap.size x y1 := bel_trans hx4 hc1
        have hv1 := b0.trans (hy1.mono b0.size)
        clear d0 d1 d2 d3 d4 d5 d6 d7 d8 d9 da e0 e1 a0 a1 a2 a3 a4 l0 l1 l2
        obtain ⟨⟨d0, d1, d2, d3, d4, d5, d6, d7, d8, d9, da⟩, ⟨e0, e1⟩, ⟨a0, a1, a2, a3, a4⟩⟩ := HBX.out y1 hy1
        obtain ⟨l0, l1, l2⟩ := HLX.out y1 hy1
        go_wp2_with fail
        refine (HHN.out y1 hv1).mono ?_
        rintro e y2 ⟨rfl, hc2⟩
        go_wp2
        go_ret
        exact ⟨by simp, hv1.trans (hc2.mono hv1.size)⟩
      · have hp : proveE c ds step = 1 := by unfold proveE; rw [if_neg (by simp [hC]), if_neg h3]
        have HPR := Lib.hid (fun W h => HPN.out W h (by rw [hp]; decide))
        rw [hp] at HPR
        have t : inB step 0 (c.steps - 1) = false := by
          cases hh : inB step 0 (c.steps - 1)
          · rfl
          · exact absurd (inB_iff.1 hh) (by omega)
        rw [t] at HI
        obtain ⟨z, hz⟩ : ∃ z, z = nextE c ds s step := ⟨_, rfl⟩
        rw [← hz] at HNE HHN tN
        clear hz hC hf hN hd i1 i2 hI h3 hp t
        go_enter Tryz.func4, Tryz.ntmps4
        go_upto_region 1 with fail
        rw [← HX.out]
        obtain ⟨⟨d0, d1, d2, d3, d4, d5, d6, d7, d8, d9, da⟩, ⟨e0, e1⟩, ⟨a0, a1, a2, a3, a4⟩⟩ := HBX.out x (Below.refl _ _)
        obtain ⟨l0, l1, l2⟩ := HLX.out x (Below.refl _ _)
        go_wp2_with fail
        refine (HCO.out x b0).mono ?_
        rintro e x1 ⟨rfl, hb1⟩
        clear d0 d1 d2 d3 d4 d5 d6 d7 d8 d9 da e0 e1 a0 a1 a2 a3 a4 l0 l1 l2
        obtain ⟨⟨d0, d1, d2, d3, d4, d5, d6, d7, d8, d9, da⟩, ⟨e0, e1⟩, ⟨a0, a1, a2, a3, a4⟩⟩ := HBX.out x1 hb1
        obtain ⟨l0, l1, l2⟩ := HLX.out x1 hb1
        have hw1 := b0.trans (hb1.mono b0.size)
        rw [HC0.out]
        go_wp2_with fail
        try rw [HS.out]
        (with_reducible refine (HI.out _).mono ?_)
        rintro e w' ⟨rfl, rfl⟩
        have h1A : Below x.heap.size x (x1.alloc (.cells #[.slice none 0 0, .slice none 0 0] 28)) := hb1.alloc hb1.size _
        have hw1A := b0.trans (h1A.mono b0.size)
        go_wp2_with fail
        refine (HPR.out _ hw1A).mono ?_
        rintro e x2 ⟨rfl, hb2⟩
        have hx2 : Below x.heap.size x x2 := bel_trans h1A hb2
        have BZ : Blk x2 x1.heap.size 28 #[.slice none 0 0, .slice none 0 0] := (Blk.made x1 28 #[.slice none 0 0, .slice none 0 0]).below hb2 (by simp)
        obtain ⟨⟨b0', b1'⟩, _⟩ := BZ.two
        have lz := BZ.lt
        have hx2A : Below x.heap.size x (x2.alloc (.cells #[.slice none 0 0, .slice none 0 0] 28)) := hx2.alloc hx2.size _
        clear d0 d1 d2 d3 d4 d5 d6 d7 d8 d9 da e0 e1 a0 a1 a2 a3 a4 l0 l1 l2
        go_wp2_with fail
        refine (HSM0.out _).mono ?_
        rintro e x3 ⟨rfl, hb3⟩
        have hx3 : Below x.heap.size x x3 := bel_trans hx2A hb3
        have hw3 := b0.trans (hx3.mono b0.size)
        clear b0' b1' lz
        obtain ⟨⟨d0, d1, d2, d3, d4, d5, d6, d7, d8, d9, da⟩, ⟨e0, e1⟩, ⟨a0, a1, a2, a3, a4⟩⟩ := HBX.out x3 hx3
        obtain ⟨l0, l1, l2⟩ := HLX.out x3 hx3
        go_wp2_with fail
        refine (HNE.out x3 hw3).mono ?_
        rintro e y1 ⟨rfl, hc1⟩
        have hy1 : Below x.heap.size x y1 := bel_trans hx3 hc1
        have hv1 := b0.trans (hy1.mono b0.size)
        clear d0 d1 d2 d3 d4 d5 d6 d7 d8 d9 da e0 e1 a0 a1 a2 a3 a4 l0 l1 l2
        obtain ⟨⟨d0, d1, d2, d3, d4, d5, d6, d7, d8, d9, da⟩, ⟨e0, e1⟩, ⟨a0, a1, a2, a3, a4⟩⟩ := HBX.out y1 hy1
        obtain ⟨l0, l1, l2⟩ := HLX.out y1 hy1
        go_wp2_with fail
        refine (HHN.out y1 hv1).mono ?_
        rintro e y2 ⟨rfl, hc2⟩
        go_wp2
        go_ret
        exact ⟨by simp, hv1.trans (hc2.mono hv1.size)⟩
    · have hp : proveE c ds step = crs c ds := if_pos hC
      have HPR := Lib.hid (fun W h => HPN.out W h (by rw [hp]; exact hC))
      rw [hp] at HPR
      have tC : (crs c ds == 0) = false := beq_eq_false_iff_ne.2 hC
      obtain ⟨z, hz⟩ : ∃ z, z = nextE c ds s step := ⟨_, rfl⟩
      rw [← hz] at HNE HHN tN
      obtain ⟨v, hv⟩ : ∃ v, v = crs c ds := ⟨_, rfl⟩
      rw [← hv] at HPR tC HCO
      clear hz hv hC hN hd i1 i2 hI hp
      go_enter Tryz.func4, Tryz.ntmps4
      go_upto_region 1 with fail
      rw [← HX.out]
      obtain ⟨⟨d0, d1, d2, d3, d4, d5, d6, d7, d8, d9, da⟩, ⟨e0, e1⟩, ⟨a0, a1, a2, a3, a4⟩⟩ := HBX.out x (Below.refl _ _)
      obtain ⟨l0, l1, l2⟩ := HLX.out x (Below.refl _ _)
      go_wp2_with fail
      refine (HCO.out x b0).mono ?_
      rintro e x1 ⟨rfl, hb1⟩
      clear d0 d1 d2 d3 d4 d5 d6 d7 d8 d9 da e0 e1 a0 a1 a2 a3 a4 l0 l1 l2
      obtain ⟨⟨d0, d1, d2, d3, d4, d5, d6, d7, d8, d9, da⟩, ⟨e0, e1⟩, ⟨a0, a1, a2, a3, a4⟩⟩ := HBX.out x1 hb1
      obtain ⟨l0, l1, l2⟩ := HLX.out x1 hb1
      have hw1 := b0.trans (hb1.mono b0.size)
      have h1A : Below x.heap.size x (x1.alloc (.cells #[.slice none 0 0, .slice none 0 0] 28)) := hb1.alloc hb1.size _
      have hw1A := b0.trans (h1A.mono b0.size)
      go_wp2_with fail
      refine (HPR.out _ hw1A).mono ?_
      rintro e x2 ⟨rfl, hb2⟩
      have hx2 : Below x.heap.size x x2 := bel_trans h1A hb2
      have BZ : Blk x2 x1.heap.size 28 #[.slice none 0 0, .slice none 0 0] := (Blk.made x1 28 #[.slice none 0 0, .slice none 0 0]).below hb2 (by simp)
      obtain ⟨⟨b0', b1'⟩, _⟩ := BZ.two
      have lz := BZ.lt
      have hx2A : Below x.heap.size x (x2.alloc (.cells #[.slice none 0 0, .slice none 0 0] 28)) := hx2.alloc hx2.size _
      clear d0 d1 d2 d3 d4 d5 d6 d7 d8 d9 da e0 e1 a0 a1 a2 a3 a4 l0 l1 l2
      go_wp2_with fail
      refine (HSM0.out _).mono ?_
      rintro e x3 ⟨rfl, hb3⟩
      have hx3 : Below x.heap.size x x3 := bel_trans hx2A hb3
      have hw3 := b0.trans (hx3.mono b0.size)
      clear b0' b1' lz
      obtain ⟨⟨d0, d1, d2, d3, d4, d5, d6, d7, d8, d9, da⟩, ⟨e0, e1⟩, ⟨a0, a1, a2, a3, a4⟩⟩ := HBX.out x3 hx3
      obtain ⟨l0, l1, l2⟩ := HLX.out x3 hx3
      go_wp2_with fail
      refine (HNE.out x3 hw3).mono ?_
      rintro e y1 ⟨rfl, hc1⟩
      have hy1 : Below x.heap.size x y1 := bel_trans hx3 hc1
      have hv1 := b0.trans (hy1.mono b0.size)
      clear d0 d1 d2 d3 d4 d5 d6 d7 d8 d9 da e0 e1 a0 a1 a2 a3 a4 l0 l1 l2
      obtain ⟨⟨d0, d1, d2, d3, d4, d5, d6, d7, d8, d9, da⟩, ⟨e0, e1⟩, ⟨a0, a1, a2, a3, a4⟩⟩ := HBX.out y1 hy1
      obtain ⟨l0, l1, l2⟩ := HLX.out y1 hy1
      go_wp2_with fail
      refine (HHN.out y1 hv1).mono ?_
      rintro e y2 ⟨rfl, hc2⟩
      go_wp2
      go_ret
      exact ⟨by simp, hv1.trans (hc2.mono hv1.size)⟩

set_option maxRecDepth 100000 in
theorem spotSays_lifted (os : Os) (started : os.Started) (H : Type) (enc : TypeId × Value → H) :
    ReturnsInHanded {} Tryz.checked os 4 .any (Rows.spotSaysSpec.pre6 enc Tryz.prog Tryz.f4 Rows.spotSaysRow.domain false) (Rows.spotSaysSpec.post enc Tryz.prog Tryz.f4 false true false false) := by
  refine lift_law (fn := Tryz.f4) started (by kernel_rfl) Tryz.func4
    (ChangeSpec.witness6 (enc := enc) (C := Tryz.checked) false ⟨#[], #[.agg #[.int .i64 0, .int .i64 0, .int .i64 0, .int .u64 0, .int .i64 0, .int .i64 0, .int .i64 0, .int .i64 0, .int .i64 0, .int .i64 0, .int .i64 0], .slice none 0 0, .int .i64 0, .int .u64 0, .agg #[.slice none 0 0, .slice none 0 0], .agg #[.int .i64 0, .slice none 0 0, .int .i64 0, .int .u64 0, .int .u64 0]], []⟩ 8 (by kernel_rfl) (by kernel_rfl) (by kernel_rfl) (by kernel_rfl)) (by kernel_rfl) rfl Tryz.underlying4 rfl ?_ ?_
  · intro ds h
    rw [Tryz.params4] at h
    match ds, h with
    | [d0, d1, d2, d3, d4, d5], _ => rfl
  · intro W args ds ps hA hlt hval hsz
    rw [Tryz.params4] at hA hval hsz
    obtain ⟨v0, vs0, d0, ds0, p0, q0, hargs, rfl, rfl, H0, T0⟩ := trodAll_cons hA
    obtain ⟨v1, vs1, d1, ds1, p1, q1, rfl, rfl, rfl, H1, T1⟩ := trodAll_cons T0
    obtain ⟨v2, vs2, d2, ds2, p2, q2, rfl, rfl, rfl, H2, T2⟩ := trodAll_cons T1
    obtain ⟨v3, vs3, d3, ds3, p3, q3, rfl, rfl, rfl, H3, T3⟩ := trodAll_cons T2
    obtain ⟨v4, vs4, d4, ds4, p4, q4, rfl, rfl, rfl, H4, T4⟩ := trodAll_cons T3
    obtain ⟨v5, vs5, d5, ds5, p5, q5, rfl, rfl, rfl, H5, T5⟩ := trodAll_cons T4
    obtain ⟨rfl, rfl, rfl⟩ := trodAll_nil T5
    obtain rfl : args = #[v0, v1, v2, v3, v4, v5] := by cases args; simp_all
    obtain ⟨b0, hv0⟩ := hval 0 24 v0 rfl rfl
    obtain ⟨b1, hv1⟩ := hval 1 25 v1 rfl rfl
    obtain ⟨b2, hv2⟩ := hval 2 3 v2 rfl rfl
    obtain ⟨b3, hv3⟩ := hval 3 22 v3 rfl rfl
    obtain ⟨b4, hv4⟩ := hval 4 28 v4 rfl rfl
    obtain ⟨b5, hv5⟩ := hval 5 33 v5 rfl rfl
    obtain ⟨c, rfl, cw⟩ := arg_cfg hv0 H0
    obtain ⟨D, n, dc, ds, rfl, hd, hn⟩ := arg_data (j := 1) (fun _ => rfl) hv1 H1 hsz rfl rfl
    obtain ⟨n0, rfl, _⟩ := arg_int hv2 H2
    obtain ⟨ro, rfl, wro⟩ := arg_u64 hv3 H3
    obtain ⟨A1, n1, k1, wt, A2, n2, k2, mv, rfl, ⟨i1, l1, m1, _⟩, ⟨i2, l2, m2, _⟩⟩ := arg_state (fun _ => rfl) hv4 H4
    obtain ⟨y, B, m', k', rfl, hJ, _⟩ := arg_rec2 (fun _ => rfl) hv5 H5
    have hs := wf_u64 cw.2.2.2.1
    exact spotSays_walk c hs.1 (by omega) D n dc ds W hd hn n0 ro (wf_u64 wro).1 (wt, mv) A1 A2 n1 n2 k1 k2 i1 i2 (by unfold maxLen at *; omega) (by unfold maxLen at *; omega) l1 B m' k' y hJ
theorem SpotSays_holds : Rows.SpotSaysSaid :=
  OpenClaim.holds_of_wide 4 Tryz.f4 rfl rfl rfl rfl rfl rfl rfl ⟨rfl, rfl, rfl, rfl, rfl⟩ rfl rfl rfl rfl rfl (by kernel_rfl) Tryz.func4 (by kernel_rfl)
    (of_decide_eq_true (by kernel_rfl)) (by unfold Func.isWrapper; first | (rw [if_pos (by decide +kernel)]; kernel_rfl) | (rw [if_neg (by decide +kernel)]; exact ⟨rfl, rfl⟩))
    (fun os started H enc _ => spotSays_lifted os started H enc)

end Go.Proofs.YtcfmjpcbiomdbaaGreat
