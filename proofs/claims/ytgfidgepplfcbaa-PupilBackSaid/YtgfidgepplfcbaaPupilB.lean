/- The law PupilBack holds of the given program for every input. No condition. -/
import Derived.Test.YtgfidgepplfcbaaPupBox
import Derived.Test.YtgfidgepplfcbaaRefPup
import Derived.Test.YtgfidgepplfcbaaArgs
import Derived.Deep.DeepCutAuto
import Derived.Deep.CutBlock
namespace Go.Proofs.Ytgfidgepplfcbaa
open Go.ChangeShapes Go.WideShapes Go.ChangeAt Go.RowKit Pl

theorem own_cap {w : World} {base : Nat} {e : TypeId} {size : Nat} {A : Option Addr} {n c : Nat} {xs : List Value} (h : w.ownsRow base e size (.slice A n c) n xs) : n ≤ c := by
  rcases h.2 with ⟨e, rfl⟩ | ⟨g, cap, cur, e, _, _, hc, _⟩
  · exact Nat.zero_le _
  · injection e with _ _ e3
    omega
theorem shape_flat {r1 c1 : Int} {a1 : List Int} {r2 c2 : Int} {a2 b1 b2 : List Int} (he : pupE r1 c1 a1 r2 c2 a2 b1 b2 = 0) :
    shapeE c1 r1 r2 (flatP a1 b1 a2 b2) = 0 ∧ shapeO c1 r1 r2 (flatP a1 b1 a2 b2) = ⟨r1, c1, a1, r2, c2, a2, b1, b2⟩ := by
  obtain ⟨h1, h2, h3, h4, h5, h6, h7⟩ := pupE_ok he
  obtain ⟨p1, p2, p3, p4⟩ := matE_ok h1
  obtain ⟨q1, q2, q3, q4⟩ := matE_ok h2
  subst h3
  have e : shapeE c1 c2 r2 (flatP a1 b1 a2 b2) = 0 := by
    rw [shapeE_2 p2 p1 q1, if_neg]
    rw [flatP_ok p4 h6 q4 h7, flatP_length]
    unfold sizeP
    simp only [Bool.true_eq_false, or_false, ne_eq, Decidable.not_not]
    omega
  refine ⟨e, ?_⟩
  unfold shapeO
  rw [if_pos e]
  obtain ⟨c1', rfl⟩ := Int.eq_ofNat_of_zero_le (show 0 ≤ c1 by omega)
  obtain ⟨c2', rfl⟩ := Int.eq_ofNat_of_zero_le (show 0 ≤ c2 by omega)
  obtain ⟨r2', rfl⟩ := Int.eq_ofNat_of_zero_le (show 0 ≤ r2 by omega)
  have n1 : c2' * c1' = a1.length := by rw [← Int.natCast_mul] at p3; omega
  have n2 : r2' * c2' = a2.length := by rw [← Int.natCast_mul] at q3; omega
  have n3 : c2' = b1.length := by omega
  have n4 : (flatP a1 b1 a2 b2).drop (a1.length + b1.length + a2.length) = b2 := flatP_take4 _ _ _ _
  simp only [shapeP, Int.toNat_natCast, n1, n2]
  rw [flatP_take1]
  have e2 : ((flatP a1 b1 a2 b2).drop (a1.length + c2')).take a2.length = a2 := by rw [n3]; exact flatP_take3 _ _ _ _
  have e3 : ((flatP a1 b1 a2 b2).drop a1.length).take c2' = b1 := by rw [n3]; exact flatP_take2 _ _ _ _
  have e4 : ((flatP a1 b1 a2 b2).drop (a1.length + c2' + a2.length)).take r2' = b2 := by rw [n3, n4, List.take_of_length_le (by omega)]
  rw [e2, e3, e4]

theorem pupE_small {r1 c1 : Int} {a1 : List Int} {r2 c2 : Int} {a2 b1 b2 : List Int} (he : pupE r1 c1 a1 r2 c2 a2 b1 b2 = 0) : a1.length ≤ 16 ∧ a2.length ≤ 16 ∧ b1.length ≤ 16 ∧ b2.length ≤ 16 := by
  obtain ⟨h1, h2, h3, h4, h5, h6, h7⟩ := pupE_ok he
  obtain ⟨p1, p2, p3, p4⟩ := matE_ok h1
  obtain ⟨q1, q2, q3, q4⟩ := matE_ok h2
  have s1 := side_mul p1 p2
  have s2 := side_mul q1 q2
  refine ⟨by omega, by omega, by omega, by omega⟩

set_option maxRecDepth 100000 in
set_option maxHeartbeats 1000000 in
theorem shape1234 (A : Option Addr) (w : World) (hx : Ints .i64 w A 4 [1, 2, 3, 4]) : Calls Try.prog 24 #[.int .i64 1, .int .i64 1, .int .i64 1, .slice A 4 4] w fun e w' =>
    ∃ A1 k1 A2 k2 B1 d1 B2 d2, e = .returned (.tuple #[.agg #[.int .i64 1, .int .i64 1, .slice A1 1 k1, .int .i64 1, .int .i64 1, .slice A2 1 k2, .slice B1 1 d1, .slice B2 1 d2], .int .i64 0]) ∧ Ints .i64 w' B1 1 [2] ∧ Ints .i64 w' A2 1 [3] ∧ Below w.heap.size w w' := by
  have e1 : shapeE 1 1 1 [1, 2, 3, 4] = 0 := by decide +kernel
  have e2 : shapeO 1 1 1 [1, 2, 3, 4] = ⟨1, 1, [1], 1, 1, [3], [2], [4]⟩ := by unfold shapeO; rw [if_pos e1]; rfl
  have H := pup_Shape_any 1 1 1 A 4 4 [1, 2, 3, 4] w hx (by omega) (by omega)
  rw [e1, e2] at H
  refine H.mono ?_
  rintro e w1 ⟨A1, k1, A2, k2, B1, d1, B2, d2, rfl, O1, O2, O3, O4, hb⟩
  exact ⟨A1, k1, A2, k2, B1, d1, B2, d2, rfl, Ints.of_own O3 rfl, Ints.of_own O2 rfl, hb⟩

set_option maxRecDepth 100000 in
set_option maxHeartbeats 4000000 in
theorem pupilBack_walk (r1 c1 : Int) (A1 : Option Addr) (n1 k1 : Nat) (a1 : List Int) (r2 c2 : Int) (A2 : Option Addr) (n2 k2 : Nat) (a2 : List Int) (B1 : Option Addr) (m1 d1 : Nat) (b1 : List Int) (B2 : Option Addr) (m2 d2 : Nat) (b2 : List Int) (w : World) (i1 : Ints .i64 w A1 n1 a1) (i2 : Ints .i64 w A2 n2 a2) (j1 : Ints .i64 w B1 m1 b1) (j2 : Ints .i64 w B2 m2 b2) (h1 : n1 ≤ 9223372036854775807) (h2 : n2 ≤ 9223372036854775807) (h3 : m1 ≤ 9223372036854775807) (h4 : m2 ≤ 9223372036854775807) :
    Calls Try.prog 4 #[(.agg #[.int .i64 r1, .int .i64 c1, .slice A1 n1 k1, .int .i64 r2, .int .i64 c2, .slice A2 n2 k2, .slice B1 m1 d1, .slice B2 m2 d2])] w fun e w' => e = .returned (.bool true) ∧ Below w.heap.size w w' := by
  have hM : Ints .i64 ((w.alloc (.cells #[.int .i64 r1, .int .i64 c1, .slice A1 n1 k1, .int .i64 r2, .int .i64 c2, .slice A2 n2 k2, .slice B1 m1 d1, .slice B2 m2 d2] 26)).alloc (.cells #[.int .i64 1, .int .i64 2, .int .i64 3, .int .i64 4] 3)) (some ⟨w.heap.size + 1, 0, none⟩) 4 [1, 2, 3, 4] := Ints.made (w.alloc (.cells #[.int .i64 r1, .int .i64 c1, .slice A1 n1 k1, .int .i64 r2, .int .i64 c2, .slice A2 n2 k2, .slice B1 m1 d1, .slice B2 m2 d2] 26)) [1, 2, 3, 4] 4 rfl _ rfl (by simp) _
  go_enter Try.func4, Try.ntmps4
  go_wp2_with fail
  refine (shape1234 _ _ (by exact hM)).mono ?_
  rintro e x1 ⟨S1, s1, S2, s2, S3, s3, S4, s4, rfl, I3, I2, hb1⟩
  have hP1 : Blk x1 w.heap.size 26 #[.int .i64 r1, .int .i64 c1, .slice A1 n1 k1, .int .i64 r2, .int .i64 c2, .slice A2 n2 k2, .slice B1 m1 d1, .slice B2 m2 d2] := ((Blk.made w _ _).alloc _).below hb1 (by simp <;> omega)
  have hbw : Below w.heap.size w x1 := Below.trans (B := w.heap.size) (by repeat (first | exact Below.refl _ _ | assumption | refine bel_drewN ?_ _ | refine Below.drew ?_ | (refine Below.alloc ?_ (by simp <;> omega) _) | (refine Below.setCell ?_ (by simp <;> omega) _))) (hb1.mono (by simp <;> omega))
  obtain ⟨b, off, rfl, hbl, hc⟩ := I3.cells (by omega)
  obtain ⟨b', off', rfl, hbl', hc'⟩ := I2.cells (by omega)
  have g1 : x1.cell? ⟨b, off, none⟩ = some (.int .i64 2) := hc 0 (by omega)
  have g2 : x1.cell? ⟨b', off', none⟩ = some (.int .i64 3) := hc' 0 (by omega)
  have g1' : ∀ o, (x1.alloc o).cell? ⟨b, off, none⟩ = some (.int .i64 2) := fun o => (World.cell?_alloc_past _ _ _ (by omega)).trans g1
  have g2' : ∀ o, (x1.alloc o).cell? ⟨b', off', none⟩ = some (.int .i64 3) := fun o => (World.cell?_alloc_past _ _ _ (by omega)).trans g2
  obtain ⟨q0, q1, q2, q3, q4, q5, q6, q7⟩ := forall_and8 (fun o => (hP1.alloc o).pup)
  clear hc hc' I3 I2 hb1 g1 g2
  have hbf : ∀ o, Below w.heap.size w (x1.alloc o) := fun o => hbw.alloc hbw.size o
  by_cases hE : pupE r1 c1 a1 r2 c2 a2 b1 b2 = 0
  · obtain ⟨f1, f2⟩ := shape_flat hE
    have hsm := pupE_small hE
    rw [i1.len, i2.len, j1.len, j2.len] at hsm
    obtain ⟨sm1, sm2, sm3, sm4⟩ := hsm
    have HL := Lib.hid (flatP_len40 hE)
    have HF := Lib.hid (fun W (q1 : Ints .i64 W A1 n1 a1) (q2 : Ints .i64 W A2 n2 a2) (q3 : Ints .i64 W B1 m1 b1) (q4 : Ints .i64 W B2 m2 b2) => pup_Flat_ok r1 c1 A1 n1 k1 a1 r2 c2 A2 n2 k2 a2 B1 m1 d1 b1 B2 m2 d2 b2 W q1 q2 q3 q4 (by omega) (by omega) (by omega) (by omega) hE)
    have F1 := Lib.hid f1
    have F2 := Lib.hid f2
    clear f1 f2 hE
    go_wp2_with fail
    refine (HF.out _ (by exact i1.below (hbf _)) (by exact i2.below (hbf _)) (by exact j1.below (hbf _)) (by exact j2.below (hbf _))).mono ?_
    rintro e x2 ⟨A, c, rfl, ho, hb2⟩
    have hP2 : Blk x2 w.heap.size 26 #[.int .i64 r1, .int .i64 c1, .slice A1 n1 k1, .int .i64 r2, .int .i64 c2, .slice A2 n2 k2, .slice B1 m1 d1, .slice B2 m2 d2] := (hP1.alloc _).below hb2 (hP1.alloc _).lt
    have hbx := (hbf _).trans (hb2.mono (hbf _).size)
    obtain ⟨p0, p1, p2, p3, p4, p5, p6, p7⟩ := hP2.pup
    have hcap := own_cap ho
    have hI := Ints.of_own ho rfl
    clear q0 q1 q2 q3 q4 q5 q6 q7 g1' g2' hb2 ho
    have HS := Lib.hid (pup_Shape_any c1 r1 r2 A _ c (flatP a1 b1 a2 b2) x2 hI hcap (by have := HL.out; omega))
    rw [F1.out, F2.out] at HS
    go_wp2_with fail
    refine HS.out.mono ?_
    rintro e x3 ⟨G1, g1, G2, g2, G3, g3, G4, g4, rfl, O1, O2, O3, O4, hb3⟩
    obtain ⟨q0, q1, q2, q3, q4, q5, q6, q7⟩ := forall_and8 (fun o => ((hP2.below hb3 hP2.lt).alloc o).pup)
    have hbz := hbx.trans (hb3.mono hbx.size)
    have hbz' : ∀ o, Below w.heap.size w (x3.alloc o) := fun o => hbz.alloc hbz.size o
    have J1 := (Ints.of_own O1 rfl).alloc
    have J2 := (Ints.of_own O2 rfl).alloc
    have J3 := (Ints.of_own O3 rfl).alloc
    have J4 := (Ints.of_own O4 rfl).alloc
    have l1 := i1.len
    have l2 := i2.len
    have l3 := j1.len
    have l4 := j2.len
    dsimp only at J1 J2 J3 J4 ⊢
    rw [l1] at J1
    rw [l2] at J2
    rw [l3] at J3
    rw [l4] at J4
    rw [l1, l2, l3, l4]
    clear p0 p1 p2 p3 p4 p5 p6 p7 O1 O2 O3 O4 HS HF l1 l2 l3 l4 hI hb3
    go_wp2_with fail
    refine (ref_SamePupil_yes r1 c1 G1 n1 g1 a1 r2 c2 G2 n2 g2 a2 G3 m1 g3 b1 G4 m2 g4 b2 A1 k1 A2 k2 B1 d1 B2 d2 _ (by exact J1 _) (by exact J2 _) (by exact J3 _) (by exact J4 _) (by exact i1.below (hbz' _)) (by exact i2.below (hbz' _)) (by exact j1.below (hbz' _)) (by exact j2.below (hbz' _)) (by omega) (by omega) (by omega) (by omega)).mono ?_
    rintro e x4 ⟨rfl, hb4⟩
    go_wp2
    go_ret
    exact ⟨rfl, (hbz' _).trans (hb4.mono (hbz' _).size)⟩
  · have t : (pupE r1 c1 a1 r2 c2 a2 b1 b2 != 0) = true := by rw [bne_iff_ne]; exact hE
    have HF := Lib.hid (fun W (q1 : Ints .i64 W A1 n1 a1) (q2 : Ints .i64 W A2 n2 a2) (q3 : Ints .i64 W B1 m1 b1) (q4 : Ints .i64 W B2 m2 b2) => pup_Flat_any r1 c1 A1 n1 k1 a1 r2 c2 A2 n2 k2 a2 B1 m1 d1 b1 B2 m2 d2 b2 W q1 q2 q3 q4 (by omega) (by omega) (by omega) (by omega))
    rw [show flatO r1 c1 a1 r2 c2 a2 b1 b2 = [] from if_neg hE] at HF
    clear hE
    go_wp2_with fail
    refine (HF.out _ (by exact i1.below (hbf _)) (by exact i2.below (hbf _)) (by exact j1.below (hbf _)) (by exact j2.below (hbf _))).mono ?_
    rintro e x2 ⟨A, c, rfl, _, hb2⟩
    have hP2 : Blk x2 w.heap.size 26 #[.int .i64 r1, .int .i64 c1, .slice A1 n1 k1, .int .i64 r2, .int .i64 c2, .slice A2 n2 k2, .slice B1 m1 d1, .slice B2 m2 d2] := (hP1.alloc _).below hb2 (hP1.alloc _).lt
    have hbx := (hbf _).trans (hb2.mono (hbf _).size)
    obtain ⟨p0, p1, p2, p3, p4, p5, p6, p7⟩ := hP2.pup
    clear q0 q1 q2 q3 q4 q5 q6 q7 g1' g2' hb2 HF
    rw [show ([] : List Int).length = 0 from rfl]
    go_wp2_with fail
    refine (pup_Check r1 c1 A1 n1 k1 a1 r2 c2 A2 n2 k2 a2 B1 m1 d1 b1 B2 m2 d2 b2 _ (i1.below hbx) (i2.below hbx) (j1.below hbx) (j2.below hbx) (by omega) (by omega) (by omega) (by omega)).mono ?_
    rintro e x3 ⟨rfl, hb3⟩
    go_wp2
    go_ret
    exact ⟨rfl, hbx.trans (hb3.mono hbx.size)⟩

set_option maxRecDepth 100000 in
theorem pupilBack_lifted (os : Os) (started : os.Started) (H : Type) (enc : TypeId × Value → H) :
    ReturnsInHanded {} Try.checked os 4 .any (Rows.pupilBackSpec.pre6 enc Try.prog Try.f4 Rows.pupilBackRow.domain false) (Rows.pupilBackSpec.post enc Try.prog Try.f4 false true false false) := by
  refine lift_law (fn := Try.f4) started (by kernel_rfl) Try.func4
    (ChangeSpec.witness6 (enc := enc) (C := Try.checked) false ⟨#[], #[.agg #[.int .i64 0, .int .i64 0, .slice none 0 0, .int .i64 0, .int .i64 0, .slice none 0 0, .slice none 0 0, .slice none 0 0]], []⟩ 8 (by kernel_rfl) (by kernel_rfl) (by kernel_rfl) (by kernel_rfl)) (by kernel_rfl) rfl Try.underlying4 rfl ?_ ?_
  · intro ds h
    rw [Try.params4] at h
    match ds, h with
    | [d0], _ => rfl
  · intro W args ds ps hA hlt hval hsz
    rw [Try.params4] at hA hval hsz
    obtain ⟨v0, vs0, d0, ds0, p0, q0, hargs, rfl, rfl, H0, T0⟩ := trodAll_cons hA
    obtain ⟨rfl, rfl, rfl⟩ := trodAll_nil T0
    obtain rfl : args = #[v0] := by cases args; simp_all
    obtain ⟨b0, hv0⟩ := hval 0 26 v0 rfl rfl
    obtain ⟨r1, c1, A1, n1, k1, a1, r2, c2, A2, n2, k2, a2, B1, m1, e1, y1, B2, m2, e2, y2, rfl, _, _, _, _, ⟨i1, l1, l2⟩, ⟨i2, l3, l4⟩, ⟨j1, l5, l6⟩, ⟨j2, l7, l8⟩⟩ := arg_pup (fun _ => rfl) hv0 H0
    have hmx : maxLen = 9223372036854775807 := rfl
    exact pupilBack_walk r1 c1 A1 n1 k1 a1 r2 c2 A2 n2 k2 a2 B1 m1 e1 y1 B2 m2 e2 y2 W i1 i2 j1 j2 (by omega) (by omega) (by omega) (by omega)
theorem PupilBack_holds : Rows.PupilBackSaid :=
  OpenClaim.holds_of_wide 4 Try.f4 rfl rfl rfl rfl rfl rfl rfl ⟨rfl, rfl, rfl, rfl, rfl⟩ rfl rfl rfl rfl rfl (by kernel_rfl) Try.func4 (by kernel_rfl)
    (of_decide_eq_true (by kernel_rfl)) (by unfold Func.isWrapper; first | (rw [if_pos (by decide +kernel)]; kernel_rfl) | (rw [if_neg (by decide +kernel)]; exact ⟨rfl, rfl⟩))
    (fun os started H enc _ => pupilBack_lifted os started H enc)

end Go.Proofs.Ytgfidgepplfcbaa
