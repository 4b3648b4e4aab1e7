/- The law PupilStill holds of the given program for every input. No condition. -/
import Derived.Test.YtejkkbjepgghlaaPupS
import Derived.Deep.DeepCutAuto
import Derived.Deep.CutBlock
import Derived.Outline
namespace Go.Proofs.Ytejkkbjepgghlaa
open Go.ChangeShapes Go.WideShapes Go.ChangeAt Go.RowKit Pl

set_option maxRecDepth 100000 in
set_option maxHeartbeats 16000000 in
theorem pupilStill_walk (r1 c1 : Int) (A1 : Option Addr) (n1 k1 : Nat) (a1 : List Int) (r2 c2 : Int) (A2 : Option Addr) (n2 k2 : Nat) (a2 : List Int) (B1 : Option Addr) (m1 d1 : Nat) (b1 : List Int) (B2 : Option Addr) (m2 d2 : Nat) (b2 : List Int) (X T : Option Addr) (ni no xc tc : Nat) (x t : List Int) (w : World) (i1 : Ints .i64 w A1 n1 a1) (i2 : Ints .i64 w A2 n2 a2) (j1 : Ints .i64 w B1 m1 b1) (j2 : Ints .i64 w B2 m2 b2) (ix : Ints .i64 w X ni x) (it : Ints .i64 w T no t) (g1 : n1 ≤ k1) (g2 : n2 ≤ k2) (h1 : n1 ≤ 9223372036854775807) (h2 : n2 ≤ 9223372036854775807) (h3 : m1 ≤ 9223372036854775807) (h4 : m2 ≤ 9223372036854775807) :
    Calls Try.prog 7 #[(.agg #[.int .i64 r1, .int .i64 c1, .slice A1 n1 k1, .int .i64 r2, .int .i64 c2, .slice A2 n2 k2, .slice B1 m1 d1, .slice B2 m2 d2]), .agg #[.slice X ni xc, .slice T no tc]] w fun e w' => e = .returned (.bool true) ∧ Below w.heap.size w w' := by
  obtain ⟨W0, hW0⟩ : ∃ W0, W0 = (w.alloc (.cells #[.int .i64 r1, .int .i64 c1, .slice A1 n1 k1, .int .i64 r2, .int .i64 c2, .slice A2 n2 k2, .slice B1 m1 d1, .slice B2 m2 d2] 49)).alloc (.cells #[.slice X ni xc, .slice T no tc] 51) := ⟨_, rfl⟩
  have HB : Blk W0 w.heap.size 49 #[.int .i64 r1, .int .i64 c1, .slice A1 n1 k1, .int .i64 r2, .int .i64 c2, .slice A2 n2 k2, .slice B1 m1 d1, .slice B2 m2 d2] := by rw [hW0]; exact (Blk.made _ _ _).alloc _
  have HX : Blk W0 (w.heap.size + 1) 51 #[.slice X ni xc, .slice T no tc] := by rw [hW0]; exact Blk.made' _ _ _ (by simp)
  have bw : Below w.heap.size w W0 := by rw [hW0]; exact ((Below.refl _ _).alloc (Nat.le_refl _) _).alloc (by simp) _
  have HFW := Lib.hid (fun W (q1 : Ints .i64 W A1 n1 a1) (q2 : Ints .i64 W A2 n2 a2) (q3 : Ints .i64 W B1 m1 b1) (q4 : Ints .i64 W B2 m2 b2) (q5 : Ints .i64 W X ni x) => pup_Forward_any r1 c1 A1 n1 k1 a1 r2 c2 A2 n2 k2 a2 B1 m1 d1 b1 B2 m2 d2 b2 X ni xc x W q1 q2 q3 q4 q5 g1 g2 h1 h2 h3 h4)
  have HLS := Lib.hid (fun W Y yn yc y (q1 : Ints .i64 W A1 n1 a1) (q2 : Ints .i64 W A2 n2 a2) (q3 : Ints .i64 W B1 m1 b1) (q4 : Ints .i64 W B2 m2 b2) (q5 : Ints .i64 W X ni x) (q6 : Ints .i64 W Y yn y) => pup_Loss_any r1 c1 A1 n1 k1 a1 r2 c2 A2 n2 k2 a2 B1 m1 d1 b1 B2 m2 d2 b2 X Y ni yn xc yc x y W q1 q2 q3 q4 q5 q6 g1 g2 h1 h2 h3 h4)
  have HGR := Lib.hid (fun W Y yn yc y (q1 : Ints .i64 W A1 n1 a1) (q2 : Ints .i64 W A2 n2 a2) (q3 : Ints .i64 W B1 m1 b1) (q4 : Ints .i64 W B2 m2 b2) (q5 : Ints .i64 W X ni x) (q6 : Ints .i64 W Y yn y) => pup_Grad_any r1 c1 A1 n1 k1 a1 r2 c2 A2 n2 k2 a2 B1 m1 d1 b1 B2 m2 d2 b2 X Y ni yn xc yc x y W q1 q2 q3 q4 q5 q6 g1 g2 h1 h2 h3 h4)
  clear h1 h2 h3 h4
  go_enter Try.func7, Try.ntmps7
  go_wp2_with fail
  rw [← hW0]
  clear hW0
  refine (keep_one W0).mono ?_
  rintro e y1 ⟨A, B, C, rfl, q1, q2, q3, hb1⟩
  replace HB := HB.below hb1 HB.lt
  replace HX := HX.below hb1 HX.lt
  replace bw := bw.trans (hb1.mono bw.size)
  clear hb1
  go_wp2_with fail
  refine (still_loss A B C _ _ _ (by exact (q1.alloc _).alloc _) (by exact (q2.alloc _).alloc _) (by exact (q3.alloc _).alloc _) (by exact (Ints.made _ [_] 1 rfl _ rfl rfl _).alloc _) (by exact Ints.made _ [_] 1 rfl _ rfl (by simp) _)).mono ?_
  rintro e y2 ⟨rfl, hb2⟩
  replace HB := ((HB.alloc _).alloc _).below hb2 ((HB.alloc _).alloc _).lt
  replace HX := ((HX.alloc _).alloc _).below hb2 ((HX.alloc _).alloc _).lt
  replace bw := ((bw.alloc bw.size _).alloc (by simp; have := bw.size; omega) _).trans (hb2.mono (by simp; have := bw.size; omega))
  clear hb2 q1 q2 q3
  go_wp2_with fail
  refine (keep_one y2).mono ?_
  rintro e y3 ⟨A', B', C', rfl, q1, q2, q3, hb3⟩
  replace HB := HB.below hb3 HB.lt
  replace HX := HX.below hb3 HX.lt
  replace bw := bw.trans (hb3.mono bw.size)
  clear hb3
  go_wp2_with fail
  refine (still_grad A' B' C' _ _ _ (by exact (q1.alloc _).alloc _) (by exact (q2.alloc _).alloc _) (by exact (q3.alloc _).alloc _) (by exact (Ints.made _ [_] 1 rfl _ rfl rfl _).alloc _) (by exact Ints.made _ [_] 1 rfl _ rfl (by simp) _)).mono ?_
  rintro e y4 ⟨G1, z1, G2, z2, u3, z3, u4, z4, rfl, c3, c4, lt3, lt4, hb4⟩
  replace HB := ((HB.alloc _).alloc _).below hb4 ((HB.alloc _).alloc _).lt
  replace HX := ((HX.alloc _).alloc _).below hb4 ((HX.alloc _).alloc _).lt
  replace bw := ((bw.alloc bw.size _).alloc (by simp; have := bw.size; omega) _).trans (hb4.mono (by simp; have := bw.size; omega))
  clear hb4 q1 q2 q3
  have hnew : ∀ cs, Blk (y4.alloc (.cells cs 49)) y4.heap.size 49 cs := fun cs => Blk.made _ _ _
  have c3' : ∀ o, (y4.alloc o).cell? ⟨u3, 0, none⟩ = some (.int .i64 (-131072)) := fun o => by rw [((Below.refl y4.heap.size y4).alloc (Nat.le_refl _) o).cell (by exact lt3)]; exact c3
  have c4' : ∀ o, (y4.alloc o).cell? ⟨u4, 0, none⟩ = some (.int .i64 (-131072)) := fun o => by rw [((Below.refl y4.heap.size y4).alloc (Nat.le_refl _) o).cell (by exact lt4)]; exact c4
  have bw5 : ∀ o, Below w.heap.size w (y4.alloc o) := fun o => bw.alloc bw.size o
  obtain ⟨f0, f1, f2, f3, f4, f5, f6, f7⟩ := forall_and8 (fun o => (HB.alloc o).pup)
  have x0 := fun o => (HX.alloc o).cell 0
  have x1 := fun o => (HX.alloc o).cell 1
  go_upto_region 7 with fail
  go_wp2_with fail
  refine (HLS.out _ T no tc t (by exact i1.below (bw5 _)) (by exact i2.below (bw5 _)) (by exact j1.below (bw5 _)) (by exact j2.below (bw5 _)) (by exact ix.below (bw5 _)) (by exact it.below (bw5 _))).mono ?_
  rintro e y5 ⟨rfl, hb5⟩
  replace bw := (bw5 _).trans (hb5.mono (bw5 _).size)
  replace HB := (HB.alloc _).below hb5 (HB.alloc _).lt
  replace HX := (HX.alloc _).below hb5 (HX.alloc _).lt
  clear hb5 f0 f1 f2 f3 f4 f5 f6 f7 x0 x1 c3 c4 c3' c4' hnew lt3 lt4 bw5
  have hneg : decide (lossO r1 c1 a1 r2 c2 a2 b1 b2 x t < 0) = false := decide_eq_false (by have := lossO_nonneg r1 c1 a1 r2 c2 a2 b1 b2 x t; omega)
  obtain ⟨be, hbe⟩ : ∃ be, be = bothE r1 c1 a1 r2 c2 a2 b1 b2 ni no := ⟨_, rfl⟩
  obtain ⟨lo, hlo⟩ : ∃ lo, lo = lossO r1 c1 a1 r2 c2 a2 b1 b2 x t := ⟨_, rfl⟩
  rw [← hlo] at hneg ⊢
  rw [← hbe]
  clear hlo hbe
  go_upto_region 8 with fail
  go_cut [81] (fun b wx => b = .bool false ∧ wx = y5)
  case first =>
    cases t0 : be == 0
    · go_wp2
      go_meet
      case rel => exact ⟨rfl, rfl⟩
    · go_wp2
      go_meet
      case rel => exact ⟨by first | rfl | (rw [hneg]), rfl⟩
  case rest =>
  obtain ⟨rfl, rfl⟩ := hcut
  clear hneg
  clear it
  obtain ⟨f0, f1, f2, f3, f4, f5, f6, f7⟩ := HB.pup
  obtain ⟨⟨x0, x1⟩, _⟩ := HX.two'
  by_cases hE : fwE r1 c1 a1 r2 c2 a2 b1 b2 ni = 0
  · obtain ⟨hP, hn⟩ := fwE_ok hE
    obtain ⟨H, I, O, rfl, rfl, rfl, rfl, hH, hI, hO, e1, e2, e3, e4, _, _⟩ := pup_dims hP
    obtain rfl : m1 = H := by rw [← j1.len]; exact e3
    obtain rfl : m2 = O := by rw [← j2.len]; exact e4
    obtain rfl : ni = I := by omega
    have HFW2 := still_Fwd m1 ni m2 A1 n1 k1 a1 A2 n2 k2 a2 B1 d1 b1 B2 d2 b2 X xc x wc (i1.below bw) (i2.below bw) (j1.below bw) (j2.below bw) (ix.below bw) g1 g2 hP
    have HL7 := Lib.hid (fun Y yc W (q1 : Ints .i64 W A1 n1 a1) (q2 : Ints .i64 W A2 n2 a2) (q3 : Ints .i64 W B1 m1 b1) (q4 : Ints .i64 W B2 m2 b2) (q5 : Ints .i64 W X ni x) (q6 : Ints .i64 W Y m2 (outpL m1 ni m2 a1 b1 a2 b2 x)) => still_Loss m1 ni m2 A1 n1 k1 a1 A2 n2 k2 a2 B1 d1 b1 B2 d2 b2 X xc x Y yc W q1 q2 q3 q4 q5 q6 g1 g2 hP)
    obtain ⟨z1, z2, z3, z4, hz0, hzs, s1, s2, s3, s4, HG⟩ := still_Grad m1 ni m2 A1 n1 k1 a1 A2 n2 k2 a2 B1 d1 b1 B2 d2 b2 X xc x g1 g2 hP ix.len
    have HG8 := Lib.hid HG
    have HZF := Lib.hid (still_Flat m1 ni m2 z1 z2 z3 z4 s1 s2 s3 s4 hz0)
    have HZS := Lib.hid hzs
    have HN := Lib.hid (hidL_nonneg m1 ni a1 b1 x)
    have HFL := Lib.hid (show (flatP z1 z3 z2 z4).length ≤ 64 by unfold flatP; simp; omega)
    have hm1 := hH.2
    obtain ⟨ys, hys⟩ : ∃ ys, ys = outpL m1 ni m2 a1 b1 a2 b2 x := ⟨_, rfl⟩
    obtain ⟨hs, hhs⟩ : ∃ hs, hs = hidL m1 ni a1 b1 x := ⟨_, rfl⟩
    obtain ⟨fs, hfs⟩ : ∃ fs, fs = flatP z1 z3 z2 z4 := ⟨_, rfl⟩
    rw [← hys] at HFW2 HG8 HL7
    rw [← hhs] at HFW2 HN
    rw [← hfs] at HZF HZS HFL
    clear hys hhs hfs hz0 hzs HG hE hP hn e1 e2 e3 e4 HFW HLS HGR g1 g2 hH hI hO
    go_wp2_with fail
    refine HFW2.mono ?_
    rintro e y6 ⟨S, s, Y, yc, rfl, IS, IY, hb6⟩
    replace bw := bw.trans (hb6.mono bw.size)
    replace HB := HB.below hb6 HB.lt
    replace HX := HX.below hb6 HX.lt
    clear hb6 f0 f1 f2 f3 f4 f5 f6 f7 x0 x1 HFW2
    obtain ⟨f0, f1, f2, f3, f4, f5, f6, f7⟩ := forall_and8 (fun o => (HB.alloc o).pup)
    obtain ⟨⟨x0, x1⟩, _⟩ := HX.two'
    have bw6 : ∀ o, Below w.heap.size w (y6.alloc o) := fun o => bw.alloc bw.size o
    have HY : Blk (y6.alloc (.cells #[.slice X ni xc, .slice Y m2 yc] 51)) y6.heap.size 51 #[.slice X ni xc, .slice Y m2 yc] := Blk.made _ _ _
    obtain ⟨⟨v0, v1⟩, _⟩ := HY.two'
    go_upto_region 14 with fail
    go_wp2_with fail
    refine (HL7.out Y yc _ (by exact i1.below (bw6 _)) (by exact i2.below (bw6 _)) (by exact j1.below (bw6 _)) (by exact j2.below (bw6 _)) (by exact ix.below (bw6 _)) (by exact IY.alloc _)).mono ?_
    rintro e y7 ⟨rfl, hb7⟩
    replace bw := (bw6 _).trans (hb7.mono (bw6 _).size)
    replace HB := (HB.alloc _).below hb7 (HB.alloc _).lt
    replace HY := HY.below hb7 HY.lt
    replace IS := (IS.alloc _).below hb7
    replace IY := (IY.alloc _).below hb7
    clear hb7 f0 f1 f2 f3 f4 f5 f6 f7 x0 x1 v0 v1 bw6 HL7 HX
    obtain ⟨f0, f1, f2, f3, f4, f5, f6, f7⟩ := HB.pup
    obtain ⟨⟨v0, v1⟩, _⟩ := HY.two'
    go_wp2_with fail
    refine (HG8.out Y yc _ (i1.below bw) (i2.below bw) (j1.below bw) (j2.below bw) (ix.below bw) IY).mono ?_
    rintro e y8 ⟨G1, p1, G2, p2, G3, p3, G4, p4, rfl, O1, O2, O3, O4, hb8⟩
    replace bw := bw.trans (hb8.mono bw.size)
    replace IS := IS.below hb8
    have J1 := Ints.of_own O1 rfl
    have J2 := Ints.of_own O2 rfl
    have J3 := Ints.of_own O3 rfl
    have J4 := Ints.of_own O4 rfl
    clear hb8 f0 f1 f2 f3 f4 f5 f6 f7 v0 v1 HG8 HB HY IY O1 O2 O3 O4
    have bw8 : ∀ o, Below w.heap.size w (y8.alloc o) := fun o => bw.alloc bw.size o
    go_wp2_with fail
    refine (HZF.out G1 p1 G2 p2 G3 p3 G4 p4 _ (by exact J1.alloc _) (by exact J2.alloc _) (by exact J3.alloc _) (by exact J4.alloc _)).mono ?_
    rintro e y9 ⟨Z, zc, rfl, JZ, hb9⟩
    replace bw := (bw8 _).trans (hb9.mono (bw8 _).size)
    replace IS := (IS.alloc _).below hb9
    clear hb9 bw8 J1 J2 J3 J4 HZF
    go_wp2_with fail
    refine (still_l Z fs.length zc fs _ (by exact JZ) (by have := HFL.out; omega) HZS.out).mono ?_
    rintro e y10 ⟨rfl, k10, rfl⟩
    go_wp2_with fail
    refine (still_h S m1 s hs _ (by exact IS.drewN _) (by omega) HN.out).mono ?_
    rintro e y11 ⟨rfl, k11, rfl⟩
    go_wp2
    go_ret
    exact ⟨rfl, bel_drewN bw _⟩
  · have FW := HFW.out _ (i1.below bw) (i2.below bw) (j1.below bw) (j2.below bw) (ix.below bw)
    rw [show hidO r1 c1 a1 r2 c2 a2 b1 b2 x = [] from if_neg (by rw [ix.len]; exact hE), show outpO r1 c1 a1 r2 c2 a2 b1 b2 x = [] from if_neg (by rw [ix.len]; exact hE)] at FW
    have t0 : (fwE r1 c1 a1 r2 c2 a2 b1 b2 ni != 0) = true := by rw [bne_iff_ne]; exact hE
    obtain ⟨ee, hee⟩ : ∃ ee, ee = fwE r1 c1 a1 r2 c2 a2 b1 b2 ni := ⟨_, rfl⟩
    rw [← hee] at FW t0
    clear hE hee HFW HLS HGR g1 g2
    go_wp2_with fail
    refine FW.mono ?_
    rintro e y6 ⟨S, s, Y, yc, he, O1, O2, hb6⟩
    simp only [List.length_nil] at he
    subst he
    clear O1 O2
    go_wp2_with fail
    go_ret
    exact ⟨rfl, bw.trans (hb6.mono bw.size)⟩

set_option maxRecDepth 100000 in
theorem pupilStill_lifted (os : Os) (started : os.Started) (H : Type) (enc : TypeId × Value → H) :
    ReturnsInHanded {} Try.checked os 7 .any (Rows.pupilStillSpec.pre6 enc Try.prog Try.f7 Rows.pupilStillRow.domain false) (Rows.pupilStillSpec.post enc Try.prog Try.f7 false true false false) := by
  refine lift_law (fn := Try.f7) started (by kernel_rfl) Try.func7
    (ChangeSpec.witness6 (enc := enc) (C := Try.checked) false ⟨#[], #[.agg #[.int .i64 0, .int .i64 0, .slice none 0 0, .int .i64 0, .int .i64 0, .slice none 0 0, .slice none 0 0, .slice none 0 0], .agg #[.slice none 0 0, .slice none 0 0]], []⟩ 8 (by kernel_rfl) (by kernel_rfl) (by kernel_rfl) (by kernel_rfl)) (by kernel_rfl) rfl Try.underlying4 rfl ?_ ?_
  · intro ds h
    rw [Try.params7] at h
    match ds, h with
    | [d0, d1], _ => rfl
  · intro W args ds ps hA hlt hval hsz
    rw [Try.params7] at hA hval hsz
    obtain ⟨v0, vs0, d0, ds0, p0, q0, hargs, rfl, rfl, H0, T0⟩ := trodAll_cons hA
    obtain ⟨v1, vs1, d1, ds1, p1, q1, rfl, rfl, rfl, H1, T1⟩ := trodAll_cons T0
    obtain ⟨rfl, rfl, rfl⟩ := trodAll_nil T1
    obtain rfl : args = #[v0, v1] := by cases args; simp_all
    obtain ⟨b0, hv0⟩ := hval 0 49 v0 rfl rfl
    obtain ⟨b1, hv1⟩ := hval 1 51 v1 rfl rfl
    obtain ⟨r1, c1, A1, n1, k1, a1, r2, c2, A2, n2, k2, a2, B1, m1, e1, y1, B2, m2, e2, y2, rfl, _, _, _, _, ⟨i1, l1, l2⟩, ⟨i2, l3, l4⟩, ⟨j1, l5, l6⟩, ⟨j2, l7, l8⟩⟩ := arg_pup (fun _ => rfl) hv0 H0
    obtain ⟨X, ni, xc, x, T, no, tc, t, rfl, ⟨ix, l9, l10⟩, ⟨it, l11, l12⟩⟩ := arg_example (fun _ => rfl) hv1 H1
    have hmx : maxLen = 9223372036854775807 := rfl
    exact pupilStill_walk r1 c1 A1 n1 k1 a1 r2 c2 A2 n2 k2 a2 B1 m1 e1 y1 B2 m2 e2 y2 X T ni no xc tc x t W i1 i2 j1 j2 ix it l1 l3 (by omega) (by omega) (by omega) (by omega)
theorem PupilStill_holds : Rows.PupilStillSaid :=
  OpenClaim.holds_of_wide 7 Try.f7 rfl rfl rfl rfl rfl rfl rfl ⟨rfl, rfl, rfl, rfl, rfl⟩ rfl rfl rfl rfl rfl (by kernel_rfl) Try.func7 (by kernel_rfl)
    (of_decide_eq_true (by kernel_rfl)) (by unfold Func.isWrapper; first | (rw [if_pos (by decide +kernel)]; kernel_rfl) | (rw [if_neg (by decide +kernel)]; exact ⟨rfl, rfl⟩))
    (fun os started H enc _ => pupilStill_lifted os started H enc)

end Go.Proofs.Ytejkkbjepgghlaa
