/- The law AuditSays holds of the given program for every input. No condition. -/
import Derived.Test.YtaicdhjdedijoaaGreatRAud
namespace Go.Proofs.YtaicdhjdedijoaaGreat
open Go.ChangeShapes Go.WideShapes Go.ChangeAt Go.RowKit Pl

def wholeE (c : Cfg) (ds : Data) (N : Nat) : Int := if crs c ds ≠ 0 then crs c ds else if (N : Int) ≤ c.steps then 0 else 2
set_option maxRecDepth 100000 in
set_option maxHeartbeats 2000000 in
theorem aud_Whole_no (c : Cfg) (ds : Data) (D : Option Addr) (n dc : Nat) (w : World) (hd : Duos w D n ds) (hn : n ≤ 9223372036854775806) (A : Option Addr) (N ac : Nat) (h : wholeE c ds N ≠ 0) :
    Calls Tryz.prog 33 #[.agg #[.int .i64 c.ci, .int .i64 c.ch, .int .i64 c.co, .int .u64 c.seed, .int .i64 c.batch, .int .i64 c.steps, .int .i64 c.rate, .int .i64 c.decay, .int .i64 c.how, .int .i64 c.keep, .int .i64 c.clip], .slice D n dc, .slice A N ac] w fun e w' => e = .returned (.tuple #[.int .i64 0, .int .i64 (wholeE c ds N)]) ∧ Below w.heap.size w w' := by
  have HCK := Lib.hid (fun W (h : Below w.heap.size w W) => trn_Check c D n dc ds W (hd.below h) hn)
  have HB0 := Blk.made w 24 #[.int .i64 c.ci, .int .i64 c.ch, .int .i64 c.co, .int .u64 c.seed, .int .i64 c.batch, .int .i64 c.steps, .int .i64 c.rate, .int .i64 c.decay, .int .i64 c.how, .int .i64 c.keep, .int .i64 c.clip]
  have b0 : Below w.heap.size w (w.alloc (.cells #[.int .i64 c.ci, .int .i64 c.ch, .int .i64 c.co, .int .u64 c.seed, .int .i64 c.batch, .int .i64 c.steps, .int .i64 c.rate, .int .i64 c.decay, .int .i64 c.how, .int .i64 c.keep, .int .i64 c.clip] 24)) := (Below.refl _ _).alloc (Nat.le_refl _) _
  by_cases hC : crs c ds = 0
  · have hst : ¬ (N : Int) ≤ c.steps := fun hh => h (by unfold wholeE; rw [if_neg (by simp [hC]), if_pos hh])
    have F := Lib.hid (show wholeE c ds N = 2 by unfold wholeE; rw [if_neg (by simp [hC]), if_neg hst])
    have C0 := Lib.hid hC
    have h5 : c.steps < (N : Int) := by omega
    clear hC h hst
    go_enter Tryz.func33, Tryz.ntmps33
    go_wp2_with fail
    refine (HCK.out _ b0).mono ?_
    rintro e x1 ⟨rfl, hb1⟩
    rw [C0.out]
    have hbw := b0.trans (hb1.mono b0.size)
    have d5 : x1.cell? ⟨w.heap.size, 5, none⟩ = some (.int .i64 c.steps) := (HB0.below hb1 HB0.lt).cell 5
    go_wp2
    go_ret2
    rw [F.out]
    exact ⟨rfl, hbw⟩
  · have F := Lib.hid (show wholeE c ds N = crs c ds from if_pos hC)
    have t : (crs c ds != 0) = true := by rw [bne_iff_ne]; exact hC
    obtain ⟨z, hz⟩ : ∃ z, z = crs c ds := ⟨_, rfl⟩
    rw [← hz] at F t HCK
    clear hz hC h
    go_enter Tryz.func33, Tryz.ntmps33
    go_wp2_with fail
    refine (HCK.out _ b0).mono ?_
    rintro e x1 ⟨rfl, hb1⟩
    have hbw := b0.trans (hb1.mono b0.size)
    go_wp2
    go_ret2
    rw [F.out]
    exact ⟨rfl, hbw⟩

set_option maxRecDepth 100000 in
set_option maxHeartbeats 4000000 in
theorem auditSays_walk (c : Cfg) (s0 : 0 ≤ c.seed) (s1 : c.seed < 18446744073709551616) (D : Option Addr) (n dc : Nat) (ds : Data) (w : World) (hd : Duos w D n ds) (hn : n ≤ 9223372036854775806) (A : Option Addr) (N ac : Nat) (f : Nat → Rec) (hx : RecsR w A N (upto f N)) :
    Calls Tryz.prog 5 #[.agg #[.int .i64 c.ci, .int .i64 c.ch, .int .i64 c.co, .int .u64 c.seed, .int .i64 c.batch, .int .i64 c.steps, .int .i64 c.rate, .int .i64 c.decay, .int .i64 c.how, .int .i64 c.keep, .int .i64 c.clip], .slice D n dc, .slice A N ac] w fun e w' => e = .returned (.bool true) ∧ Below w.heap.size w w' := by
  have HCO := Lib.hid (fun W (h : Below w.heap.size w W) => ref_Course c D n dc ds W (hd.below h) hn)
  have HWN := Lib.hid (fun W (h : Below w.heap.size w W) (hp : wholeE c ds N ≠ 0) => aud_Whole_no c ds D n dc W (hd.below h) hn A N ac hp)
  have HB0 := Blk.made w 24 #[.int .i64 c.ci, .int .i64 c.ch, .int .i64 c.co, .int .u64 c.seed, .int .i64 c.batch, .int .i64 c.steps, .int .i64 c.rate, .int .i64 c.decay, .int .i64 c.how, .int .i64 c.keep, .int .i64 c.clip]
  have b0 : Below w.heap.size w (w.alloc (.cells #[.int .i64 c.ci, .int .i64 c.ch, .int .i64 c.co, .int .u64 c.seed, .int .i64 c.batch, .int .i64 c.steps, .int .i64 c.rate, .int .i64 c.decay, .int .i64 c.how, .int .i64 c.keep, .int .i64 c.clip] 24)) := (Below.refl _ _).alloc (Nat.le_refl _) _
  by_cases hC : crs c ds = 0
  · have hf := fine hC
    have C0 := Lib.hid hC
    by_cases hN : (N : Int) ≤ c.steps
    · have HRA := Lib.hid (fun W (h : Below w.heap.size w W) => ref_Audit c ds hf s0 s1 D n dc W (hd.below h) A N ac f (hx.below h) hN)
      have HWH := Lib.hid (fun W (h : Below w.heap.size w W) => aud_Whole c ds hC s0 s1 D n dc W (hd.below h) A N ac f (hx.below h) hN)
      obtain ⟨rc, hrc⟩ : ∃ rc, rc = recC c ds := ⟨_, rfl⟩
      rw [← hrc] at HRA HWH
      clear hrc hC hf HWN hd hx
      go_enter Tryz.func5, Tryz.ntmps5
      go_wp2_with fail
      refine (HCO.out _ b0).mono ?_
      rintro e x1 ⟨rfl, hb1⟩
      rw [C0.out]
      have hw1 := b0.trans (hb1.mono b0.size)
      have B1 := HB0.below hb1 HB0.lt
      obtain ⟨d0, d1, d2, d3, d4, d5, d6, d7, d8, d9, da⟩ := B1.cfg
      go_wp2_with fail
      refine (HRA.out _ hw1).mono ?_
      rintro e x2 ⟨q, hq, rfl, hb2⟩
      have hw2 := hw1.trans (hb2.mono hw1.size)
      clear d0 d1 d2 d3 d4 d5 d6 d7 d8 d9 da
      obtain ⟨d0, d1, d2, d3, d4, d5, d6, d7, d8, d9, da⟩ := (B1.below hb2 B1.lt).cfg
      go_wp2_with fail
      refine (HWH.out _ hw2).mono ?_
      rintro e x3 ⟨q', hq', rfl, hb3⟩
      obtain rfl : q = q' := first_one hq hq'
      clear hq hq'
      go_wp2
      go_ret
      exact ⟨by simp, hw2.trans (hb3.mono hw2.size)⟩
    · have hp : wholeE c ds N = 2 := by unfold wholeE; rw [if_neg (by simp [hC]), if_neg hN]
      have HWH := Lib.hid (fun W h => HWN.out W h (by rw [hp]; decide))
      rw [hp] at HWH
      clear hC hf HWN hd hx hp
      go_enter Tryz.func5, Tryz.ntmps5
      go_wp2_with fail
      refine (HCO.out _ b0).mono ?_
      rintro e x1 ⟨rfl, hb1⟩
      rw [C0.out]
      have hw1 := b0.trans (hb1.mono b0.size)
      have B1 := HB0.below hb1 HB0.lt
      obtain ⟨d0, d1, d2, d3, d4, d5, d6, d7, d8, d9, da⟩ := B1.cfg
      go_wp2_with fail
      refine (HWH.out _ hw1).mono ?_
      rintro e x3 ⟨rfl, hb3⟩
      go_wp2
      go_ret
      exact ⟨by simp, hw1.trans (hb3.mono hw1.size)⟩
  · have hp : wholeE c ds N = crs c ds := if_pos hC
    have HWH := Lib.hid (fun W h => HWN.out W h (by rw [hp]; exact hC))
    rw [hp] at HWH
    have t : (crs c ds == 0) = false := beq_eq_false_iff_ne.2 hC
    obtain ⟨z, hz⟩ : ∃ z, z = crs c ds := ⟨_, rfl⟩
    rw [← hz] at HWH t HCO
    clear hz hC HWN hd hx hp
    go_enter Tryz.func5, Tryz.ntmps5
    go_wp2_with fail
    refine (HCO.out _ b0).mono ?_
    rintro e x1 ⟨rfl, hb1⟩
    have hw1 := b0.trans (hb1.mono b0.size)
    have B1 := HB0.below hb1 HB0.lt
    obtain ⟨d0, d1, d2, d3, d4, d5, d6, d7, d8, d9, da⟩ := B1.cfg
    go_wp2_with fail
    refine (HWH.out _ hw1).mono ?_
    rintro e x3 ⟨rfl, hb3⟩
    go_wp2
    go_ret
    exact ⟨by simp, hw1.trans (hb3.mono hw1.size)⟩

set_option maxRecDepth 100000 in
theorem auditSays_lifted (os : Os) (started : os.Started) (H : Type) (enc : TypeId × Value → H) :
    ReturnsInHanded {} Tryz.checked os 5 .any (Rows.auditSaysSpec.pre6 enc Tryz.prog Tryz.f5 Rows.auditSaysRow.domain false) (Rows.auditSaysSpec.post enc Tryz.prog Tryz.f5 false true false false) := by
  refine lift_law (fn := Tryz.f5) started (by kernel_rfl) Tryz.func5
    (ChangeSpec.witness6 (enc := enc) (C := Tryz.checked) false ⟨#[], #[.agg #[.int .i64 0, .int .i64 0, .int .i64 0, .int .u64 0, .int .i64 0, .int .i64 0, .int .i64 0, .int .i64 0, .int .i64 0, .int .i64 0, .int .i64 0], .slice none 0 0, .slice none 0 0], []⟩ 8 (by kernel_rfl) (by kernel_rfl) (by kernel_rfl) (by kernel_rfl)) (by kernel_rfl) rfl Tryz.underlying4 rfl ?_ ?_
  · intro ds h
    rw [Tryz.params5] at h
    match ds, h with
    | [d0, d1, d2], _ => rfl
  · intro W args ds ps hA hlt hval hsz
    rw [Tryz.params5] at hA hval hsz
    obtain ⟨v0, vs0, d0, ds0, p0, q0, hargs, rfl, rfl, H0, T0⟩ := trodAll_cons hA
    obtain ⟨v1, vs1, d1, ds1, p1, q1, rfl, rfl, rfl, H1, T1⟩ := trodAll_cons T0
    obtain ⟨v2, vs2, d2, ds2, p2, q2, rfl, rfl, rfl, H2, T2⟩ := trodAll_cons T1
    obtain ⟨rfl, rfl, rfl⟩ := trodAll_nil T2
    obtain rfl : args = #[v0, v1, v2] := by cases args; simp_all
    obtain ⟨b0, hv0⟩ := hval 0 24 v0 rfl rfl
    obtain ⟨b1, hv1⟩ := hval 1 25 v1 rfl rfl
    obtain ⟨b2, hv2⟩ := hval 2 51 v2 rfl rfl
    obtain ⟨c, rfl, cw⟩ := arg_cfg hv0 H0
    obtain ⟨D, n, dc, ds, rfl, hd, hn⟩ := arg_data (j := 1) (fun _ => rfl) hv1 H1 hsz rfl rfl
    obtain ⟨A, N, ac, rs, rfl, hx, _⟩ := arg_recs2 (j := 2) (fun _ => rfl) hv2 H2 hsz rfl rfl
    have hs := wf_u64 cw.2.2.2.1
    exact auditSays_walk c hs.1 (by omega) D n dc ds W hd hn A N ac (recAt rs) (by rw [upto_recAt hx.len]; exact hx.weak)
theorem AuditSays_holds : Rows.AuditSaysSaid :=
  OpenClaim.holds_of_wide 5 Tryz.f5 rfl rfl rfl rfl rfl rfl rfl ⟨rfl, rfl, rfl, rfl, rfl⟩ rfl rfl rfl rfl rfl (by kernel_rfl) Tryz.func5 (by kernel_rfl)
    (of_decide_eq_true (by kernel_rfl)) (by unfold Func.isWrapper; first | (rw [if_pos (by decide +kernel)]; kernel_rfl) | (rw [if_neg (by decide +kernel)]; exact ⟨rfl, rfl⟩))
    (fun os started H enc _ => auditSays_lifted os started H enc)

end Go.Proofs.YtaicdhjdedijoaaGreat
