/- The laws about numbers with a fixed point hold of the given program for every input: FixNearest, FixLaws, FixSays; and Names. No condition. -/
import Derived.Test.YtflljldlfgpimaaFrame
import Derived.Test.YtflljldlfgpimaaFixW
namespace Go.Proofs.Ytflljldlfgpimaa
open Go.ChangeShapes Go.WideShapes Go.ChangeAt Go.RowKit Pl

theorem drewN_below {w : World} (k : Nat) : Below w.heap.size w (w.drewN k) := ⟨rfl, rfl, rfl, Nat.le_refl _, fun _ _ => rfl⟩

set_option maxHeartbeats 1000000 in
theorem names_walk (w : World) : Calls Try.prog 3 #[] w fun e w' => e = .returned (.bool true) ∧ Below w.heap.size w w' := by
  go_enter Try.func3, Try.ntmps3
  go_wp2
  refine wp_loop_rounds 8 ?_
  iterate 8 (rw [rounds_succ]; go_wp2)
  go_ret
  exact ⟨rfl, ((Below.refl _ _).alloc (Nat.le_refl _) _)⟩

theorem tmod_even {m : Int} (h : m % 2 = 0) : m.tmod 2 = 0 := by
  have := Int.emod_add_mul_ediv m 2
  have h2 : m = 2 * (m / 2) := by omega
  rw [h2]; exact Int.mul_tmod_right _ _

set_option maxHeartbeats 1000000 in
theorem fixNearest_walk (a b : Int) (w : World) : Calls Try.prog 4 #[.int .i64 a, .int .i64 b] w fun e w' => e = .returned (.bool true) ∧ Below w.heap.size w w' := by
  obtain ⟨h1, h2⟩ := mul_bounds a b
  have c1 : mulF 5 32768 = 2 := rfl
  have c2 : mulF 7 32768 = 4 := rfl
  have c3 : mulF (-5) 32768 = -2 := rfl
  have l1 := mulF_lo (clamp a) (clamp b)
  have l2 := mulF_hi (clamp a) (clamp b)
  by_cases g1 : mulF (clamp a) (clamp b) = 2147483647
  · go_enter Try.func4, Try.ntmps4
    go_wp2_with (first | (go_at_call 16; refine (fix_Clamp _ _).mono ?_; rintro e w' ⟨rfl, rfl⟩) | (go_at_call 15; refine (fix_Mul _ _ _).mono ?_; rintro e w' ⟨rfl, k, rfl⟩))
    go_ret
    exact ⟨rfl, drewN_below _⟩
  by_cases g2 : mulF (clamp a) (clamp b) = -2147483647
  · go_enter Try.func4, Try.ntmps4
    go_wp2_with (first | (go_at_call 16; refine (fix_Clamp _ _).mono ?_; rintro e w' ⟨rfl, rfl⟩) | (go_at_call 15; refine (fix_Mul _ _ _).mono ?_; rintro e w' ⟨rfl, k, rfl⟩))
    go_ret
    exact ⟨rfl, drewN_below _⟩
  have n := mulF_near (clamp a) (clamp b) g1 g2
  rw [clamp_clamp, clamp_clamp] at n
  obtain ⟨n1, n2, n3⟩ := n
  have b1 : (mulF (clamp a) (clamp b) == 2147483647) = false := beq_eq_false_iff_ne.2 g1
  have b2 : (mulF (clamp a) (clamp b) == -2147483647) = false := beq_eq_false_iff_ne.2 g2
  clear g1 g2
  by_cases g3 : 2 * (clamp a * clamp b - mulF (clamp a) (clamp b) * 65536) = 65536 ∨ 2 * (clamp a * clamp b - mulF (clamp a) (clamp b) * 65536) = -65536
  · have ev := tmod_even (n3 g3)
    clear n3
    go_enter Try.func4, Try.ntmps4
    go_wp2_with (first | (go_at_call 16; refine (fix_Clamp _ _).mono ?_; rintro e w' ⟨rfl, rfl⟩) | (go_at_call 15; refine (fix_Mul _ _ _).mono ?_; rintro e w' ⟨rfl, k, rfl⟩))
    all_goals
      go_ret
      exact ⟨rfl, drewN_below _⟩
  · have b3 : (2 * (clamp a * clamp b - mulF (clamp a) (clamp b) * 65536) == 65536) = false := beq_eq_false_iff_ne.2 (by omega)
    have b4 : (2 * (clamp a * clamp b - mulF (clamp a) (clamp b) * 65536) == -65536) = false := beq_eq_false_iff_ne.2 (by omega)
    have G3 := Lib.hid g3
    clear n3 g3
    go_enter Try.func4, Try.ntmps4
    go_wp2_with (first | (go_at_call 16; refine (fix_Clamp _ _).mono ?_; rintro e w' ⟨rfl, rfl⟩) | (go_at_call 15; refine (fix_Mul _ _ _).mono ?_; rintro e w' ⟨rfl, k, rfl⟩))
    all_goals first | (exfalso; have := G3.out; omega) | (go_ret; exact ⟨rfl, drewN_below _⟩)

set_option maxRecDepth 100000 in
theorem fixNearest_lifted (os : Os) (started : os.Started) (H : Type) (enc : TypeId × Value → H) :
    ReturnsInHanded {} Try.checked os 4 .any (Rows.fixNearestSpec.pre6 enc Try.prog Try.f4 Rows.fixNearestRow.domain false) (Rows.fixNearestSpec.post enc Try.prog Try.f4 false true false false) := by
  refine lift_law (fn := Try.f4) started (by kernel_rfl) Try.func4
    (ChangeSpec.witness6 (enc := enc) (C := Try.checked) false ⟨#[], #[.int .i64 0, .int .i64 0], []⟩ 8 (by kernel_rfl) (by kernel_rfl) (by kernel_rfl) (by kernel_rfl)) (by kernel_rfl) rfl Try.underlying4 rfl ?_ ?_
  · intro ds h
    rw [Try.params4] at h
    match ds, h with
    | [d0, d1], _ => rfl
  · intro W args ds ps hA hlt hval hsz
    rw [Try.params4] at hA hval hsz
    obtain ⟨v0, vs0, d0, ds0, p0, q0, hargs, rfl, rfl, h0, r0⟩ := trodAll_cons hA
    obtain ⟨v1, vs1, d1, ds1, p1, q1, rfl, rfl, rfl, h1, r1⟩ := trodAll_cons r0
    obtain ⟨rfl, rfl, rfl⟩ := trodAll_nil r1
    obtain rfl : args = #[v0, v1] := by cases args; simp_all
    obtain ⟨b0, hv0⟩ := hval 0 3 v0 rfl rfl
    obtain ⟨b1, hv1⟩ := hval 1 3 v1 rfl rfl
    obtain ⟨a0, rfl, rfl, rfl, w0⟩ := open_int Try.underlying3 hv0 h0
    obtain ⟨a1, rfl, rfl, rfl, w1⟩ := open_int Try.underlying3 hv1 h1
    exact fixNearest_walk a0 a1 W
theorem FixNearest_holds : Rows.FixNearestSaid :=
  OpenClaim.holds_of_wide 4 Try.f4 rfl rfl rfl rfl rfl rfl rfl ⟨rfl, rfl, rfl, rfl, rfl⟩ rfl rfl rfl rfl rfl (by kernel_rfl) Try.func4 (by kernel_rfl)
    (of_decide_eq_true (by kernel_rfl)) (by unfold Func.isWrapper; first | (rw [if_pos (by decide +kernel)]; kernel_rfl) | (rw [if_neg (by decide +kernel)]; exact ⟨rfl, rfl⟩))
    (fun os started H enc _ => fixNearest_lifted os started H enc)

set_option maxRecDepth 100000 in
theorem names_lifted (os : Os) (started : os.Started) (H : Type) (enc : TypeId × Value → H) :
    ReturnsInHanded {} Try.checked os 3 .any (Rows.namesSpec.pre6 enc Try.prog Try.f3 Rows.namesRow.domain false) (Rows.namesSpec.post enc Try.prog Try.f3 false true false false) := by
  refine lift_law (fn := Try.f3) started (by kernel_rfl) Try.func3
    (ChangeSpec.witness6 (enc := enc) (C := Try.checked) false ⟨#[], #[], []⟩ 8 (by kernel_rfl) (by kernel_rfl) (by kernel_rfl) (by kernel_rfl)) (by kernel_rfl) rfl Try.underlying4 rfl ?_ ?_
  · intro ds h
    rw [Try.params3] at h
    match ds, h with
    | [], _ => rfl
  · intro W args ds ps hA hlt hval hsz
    rw [Try.params3] at hA hval hsz
    obtain ⟨h1, rfl, rfl⟩ := trodAll_nil hA
    obtain rfl : args = #[] := by cases args; simpa using h1
    exact names_walk W
theorem Names_holds : Rows.NamesSaid :=
  OpenClaim.holds_of_wide 3 Try.f3 rfl rfl rfl rfl rfl rfl rfl ⟨rfl, rfl, rfl, rfl, rfl⟩ rfl rfl rfl rfl rfl (by kernel_rfl) Try.func3 (by kernel_rfl)
    (of_decide_eq_true (by kernel_rfl)) (by unfold Func.isWrapper; first | (rw [if_pos (by decide +kernel)]; kernel_rfl) | (rw [if_neg (by decide +kernel)]; exact ⟨rfl, rfl⟩))
    (fun os started H enc _ => names_lifted os started H enc)


set_option maxHeartbeats 1000000 in
theorem fixLaws_walk (a b c : Int) (w : World) : Calls Try.prog 8 #[.int .i64 a, .int .i64 b, .int .i64 c] w fun e w' => e = .returned (.bool true) ∧ Below w.heap.size w w' := by
  have c1 : mulF 196608 32768 = 98304 := rfl
  have c2 : mulF 1 32768 = 0 := rfl
  have c3 : mulF 3 32768 = 2 := rfl
  have c4 : addF 2147483647 1 = 2147483647 := rfl
  obtain ⟨x, hx⟩ : ∃ x, x = clamp a := ⟨_, rfl⟩
  obtain ⟨y, hy⟩ : ∃ y, y = clamp b := ⟨_, rfl⟩
  obtain ⟨z, hz⟩ : ∃ z, z = clamp c := ⟨_, rfl⟩
  have hxc : clamp x = x := by rw [hx, clamp_clamp]
  have hyc : clamp y = y := by rw [hy, clamp_clamp]
  have e1 := addF_comm x y
  have e2 := mulF_comm x y
  have e3 := mulF_one hxc
  have e4 := subF_anti x y
  have e5 : mulF (-x) y = -mulF y x := by rw [mulF_neg, mulF_comm]
  have l1 := clamp_lo a
  have l2 := clamp_hi a
  have l3 := clamp_lo b
  have l4 := clamp_hi b
  rw [← hx] at l1 l2
  rw [← hy] at l3 l4
  have s1 := subF_lo y x
  have s2 := subF_hi y x
  have s3 := mulF_lo y x
  have s4 := mulF_hi y x
  have d1 := divF_lo x y
  have d2 := divF_hi x y
  have HX := Lib.hid hx.symm
  have HY := Lib.hid hy.symm
  have HZ := Lib.hid hz.symm
  have HC := Lib.hid hyc
  clear hx hy hz hxc hyc
  rcases (show (x ≤ y ∧ 0 ≤ z) ∨ (x ≤ y ∧ z < 0) ∨ y < x by omega) with ⟨g1, g2⟩ | ⟨g1, g2⟩ | g1
  · have m1 := addF_mono g1 z
    have m2 := mulF_mono g1 g2
    by_cases y0 : y = 0
    · subst y0
      go_enter Try.func8, Try.ntmps8
      go_wp2_with (first
        | (go_at_call 16; refine (fix_Clamp _ _).mono ?_; rintro e w' ⟨rfl, rfl⟩; (first | rw [HX.out] | skip); (first | rw [HY.out] | skip); (first | rw [HZ.out] | skip))
        | (go_at_call 15; refine (fix_Mul _ _ _).mono ?_; rintro e w' ⟨rfl, k, rfl⟩)
        | (go_at_call 22; refine (fix_Add _ _ _).mono ?_; rintro e w' ⟨rfl, rfl⟩)
        | (go_at_call 24; refine (fix_Sub _ _ _).mono ?_; rintro e w' ⟨rfl, rfl⟩)
        | (go_at_call 19; refine (fix_Div_zero _ _ HC.out _).mono ?_; rintro e w' ⟨rfl, k, rfl⟩))
      go_ret
      exact ⟨rfl, drewN_below _⟩
    · have y1 : (y == 0) = false := beq_eq_false_iff_ne.2 y0
      have d3 := divF_neg x y (by rw [HC.out]; exact y0)
      go_enter Try.func8, Try.ntmps8
      go_wp2_with (first
        | (go_at_call 16; refine (fix_Clamp _ _).mono ?_; rintro e w' ⟨rfl, rfl⟩; (first | rw [HX.out] | skip); (first | rw [HY.out] | skip); (first | rw [HZ.out] | skip))
        | (go_at_call 15; refine (fix_Mul _ _ _).mono ?_; rintro e w' ⟨rfl, k, rfl⟩)
        | (go_at_call 22; refine (fix_Add _ _ _).mono ?_; rintro e w' ⟨rfl, rfl⟩)
        | (go_at_call 24; refine (fix_Sub _ _ _).mono ?_; rintro e w' ⟨rfl, rfl⟩)
        | (go_at_call 19; refine (fix_Div_ok _ _ (by rw [HC.out]; exact y0) _).mono ?_; rintro e w' ⟨rfl, k, rfl⟩))
      go_ret
      exact ⟨rfl, drewN_below _⟩
  · have m1 := addF_mono g1 z
    by_cases y0 : y = 0
    · subst y0
      go_enter Try.func8, Try.ntmps8
      go_wp2_with (first
        | (go_at_call 16; refine (fix_Clamp _ _).mono ?_; rintro e w' ⟨rfl, rfl⟩; (first | rw [HX.out] | skip); (first | rw [HY.out] | skip); (first | rw [HZ.out] | skip))
        | (go_at_call 15; refine (fix_Mul _ _ _).mono ?_; rintro e w' ⟨rfl, k, rfl⟩)
        | (go_at_call 22; refine (fix_Add _ _ _).mono ?_; rintro e w' ⟨rfl, rfl⟩)
        | (go_at_call 24; refine (fix_Sub _ _ _).mono ?_; rintro e w' ⟨rfl, rfl⟩)
        | (go_at_call 19; refine (fix_Div_zero _ _ HC.out _).mono ?_; rintro e w' ⟨rfl, k, rfl⟩))
      go_ret
      exact ⟨rfl, drewN_below _⟩
    · have y1 : (y == 0) = false := beq_eq_false_iff_ne.2 y0
      have d3 := divF_neg x y (by rw [HC.out]; exact y0)
      go_enter Try.func8, Try.ntmps8
      go_wp2_with (first
        | (go_at_call 16; refine (fix_Clamp _ _).mono ?_; rintro e w' ⟨rfl, rfl⟩; (first | rw [HX.out] | skip); (first | rw [HY.out] | skip); (first | rw [HZ.out] | skip))
        | (go_at_call 15; refine (fix_Mul _ _ _).mono ?_; rintro e w' ⟨rfl, k, rfl⟩)
        | (go_at_call 22; refine (fix_Add _ _ _).mono ?_; rintro e w' ⟨rfl, rfl⟩)
        | (go_at_call 24; refine (fix_Sub _ _ _).mono ?_; rintro e w' ⟨rfl, rfl⟩)
        | (go_at_call 19; refine (fix_Div_ok _ _ (by rw [HC.out]; exact y0) _).mono ?_; rintro e w' ⟨rfl, k, rfl⟩))
      go_ret
      exact ⟨rfl, drewN_below _⟩
  · by_cases y0 : y = 0
    · subst y0
      go_enter Try.func8, Try.ntmps8
      go_wp2_with (first
        | (go_at_call 16; refine (fix_Clamp _ _).mono ?_; rintro e w' ⟨rfl, rfl⟩; (first | rw [HX.out] | skip); (first | rw [HY.out] | skip); (first | rw [HZ.out] | skip))
        | (go_at_call 15; refine (fix_Mul _ _ _).mono ?_; rintro e w' ⟨rfl, k, rfl⟩)
        | (go_at_call 22; refine (fix_Add _ _ _).mono ?_; rintro e w' ⟨rfl, rfl⟩)
        | (go_at_call 24; refine (fix_Sub _ _ _).mono ?_; rintro e w' ⟨rfl, rfl⟩)
        | (go_at_call 19; refine (fix_Div_zero _ _ HC.out _).mono ?_; rintro e w' ⟨rfl, k, rfl⟩))
      go_ret
      exact ⟨rfl, drewN_below _⟩
    · have y1 : (y == 0) = false := beq_eq_false_iff_ne.2 y0
      have d3 := divF_neg x y (by rw [HC.out]; exact y0)
      go_enter Try.func8, Try.ntmps8
      go_wp2_with (first
        | (go_at_call 16; refine (fix_Clamp _ _).mono ?_; rintro e w' ⟨rfl, rfl⟩; (first | rw [HX.out] | skip); (first | rw [HY.out] | skip); (first | rw [HZ.out] | skip))
        | (go_at_call 15; refine (fix_Mul _ _ _).mono ?_; rintro e w' ⟨rfl, k, rfl⟩)
        | (go_at_call 22; refine (fix_Add _ _ _).mono ?_; rintro e w' ⟨rfl, rfl⟩)
        | (go_at_call 24; refine (fix_Sub _ _ _).mono ?_; rintro e w' ⟨rfl, rfl⟩)
        | (go_at_call 19; refine (fix_Div_ok _ _ (by rw [HC.out]; exact y0) _).mono ?_; rintro e w' ⟨rfl, k, rfl⟩))
      go_ret
      exact ⟨rfl, drewN_below _⟩

set_option maxRecDepth 100000 in
theorem fixLaws_lifted (os : Os) (started : os.Started) (H : Type) (enc : TypeId × Value → H) :
    ReturnsInHanded {} Try.checked os 8 .any (Rows.fixLawsSpec.pre6 enc Try.prog Try.f8 Rows.fixLawsRow.domain false) (Rows.fixLawsSpec.post enc Try.prog Try.f8 false true false false) := by
  refine lift_law (fn := Try.f8) started (by kernel_rfl) Try.func8
    (ChangeSpec.witness6 (enc := enc) (C := Try.checked) false ⟨#[], #[.int .i64 0, .int .i64 0, .int .i64 0], []⟩ 8 (by kernel_rfl) (by kernel_rfl) (by kernel_rfl) (by kernel_rfl)) (by kernel_rfl) rfl Try.underlying4 rfl ?_ ?_
  · intro ds h
    rw [Try.params8] at h
    match ds, h with
    | [d0, d1, d2], _ => rfl
  · intro W args ds ps hA hlt hval hsz
    rw [Try.params8] at hA hval hsz
    obtain ⟨v0, vs0, d0, ds0, p0, q0, hargs, rfl, rfl, h0, r0⟩ := trodAll_cons hA
    obtain ⟨v1, vs1, d1, ds1, p1, q1, rfl, rfl, rfl, h1, r1⟩ := trodAll_cons r0
    obtain ⟨v2, vs2, d2, ds2, p2, q2, rfl, rfl, rfl, h2, r2⟩ := trodAll_cons r1
    obtain ⟨rfl, rfl, rfl⟩ := trodAll_nil r2
    obtain rfl : args = #[v0, v1, v2] := by cases args; simp_all
    obtain ⟨b0, hv0⟩ := hval 0 3 v0 rfl rfl
    obtain ⟨b1, hv1⟩ := hval 1 3 v1 rfl rfl
    obtain ⟨b2, hv2⟩ := hval 2 3 v2 rfl rfl
    obtain ⟨a0, rfl, rfl, rfl, w0⟩ := open_int Try.underlying3 hv0 h0
    obtain ⟨a1, rfl, rfl, rfl, w1⟩ := open_int Try.underlying3 hv1 h1
    obtain ⟨a2, rfl, rfl, rfl, w2⟩ := open_int Try.underlying3 hv2 h2
    exact fixLaws_walk a0 a1 a2 W
theorem FixLaws_holds : Rows.FixLawsSaid :=
  OpenClaim.holds_of_wide 8 Try.f8 rfl rfl rfl rfl rfl rfl rfl ⟨rfl, rfl, rfl, rfl, rfl⟩ rfl rfl rfl rfl rfl (by kernel_rfl) Try.func8 (by kernel_rfl)
    (of_decide_eq_true (by kernel_rfl)) (by unfold Func.isWrapper; first | (rw [if_pos (by decide +kernel)]; kernel_rfl) | (rw [if_neg (by decide +kernel)]; exact ⟨rfl, rfl⟩))
    (fun os started H enc _ => fixLaws_lifted os started H enc)


theorem clamp_zero {b : Int} : clamp b = 0 ↔ b = 0 := by unfold clamp; split <;> (try split) <;> omega

set_option maxHeartbeats 1000000 in
theorem fixSays_walk (a b : Int) (w : World) : Calls Try.prog 7 #[.int .i64 a, .int .i64 b] w fun e w' => e = .returned (.bool true) ∧ Below w.heap.size w w' := by
  by_cases hb : b = 0
  · subst hb
    go_enter Try.func7, Try.ntmps7
    go_wp2_with (first
      | (go_at_call 19; refine (fix_Div_zero _ _ rfl _).mono ?_; rintro e w' ⟨rfl, k, rfl⟩)
      | (go_at_call 16; refine (fix_Clamp _ _).mono ?_; rintro e w' ⟨rfl, rfl⟩)
      | (go_at_call 21; refine (ref_Clamp _ _).mono ?_; rintro e w' ⟨rfl, rfl⟩)
      | (go_at_call 22; refine (fix_Add _ _ _).mono ?_; rintro e w' ⟨rfl, rfl⟩)
      | (go_at_call 23; refine (ref_Add _ _ _).mono ?_; rintro e w' ⟨rfl, rfl⟩)
      | (go_at_call 24; refine (fix_Sub _ _ _).mono ?_; rintro e w' ⟨rfl, rfl⟩)
      | (go_at_call 25; refine (ref_Sub _ _ _).mono ?_; rintro e w' ⟨rfl, rfl⟩)
      | (go_at_call 15; refine (fix_Mul _ _ _).mono ?_; rintro e w' ⟨rfl, k, rfl⟩)
      | (go_at_call 26; refine (ref_Mul _ _ _).mono ?_; rintro e w' ⟨rfl, k, rfl⟩))
    go_ret
    exact ⟨rfl, drewN_below _⟩
  · have hc : clamp b ≠ 0 := fun h => hb (clamp_zero.1 h)
    have hb0 : (b != 0) = true := by rw [bne_iff_ne]; exact hb
    go_enter Try.func7, Try.ntmps7
    go_wp2_with (first
      | (go_at_call 19; refine (fix_Div_ok _ _ hc _).mono ?_; rintro e w' ⟨rfl, k, rfl⟩)
      | (go_at_call 20; refine (ref_Div _ _ hc _).mono ?_; rintro e w' ⟨rfl, k, rfl⟩)
      | (go_at_call 16; refine (fix_Clamp _ _).mono ?_; rintro e w' ⟨rfl, rfl⟩)
      | (go_at_call 21; refine (ref_Clamp _ _).mono ?_; rintro e w' ⟨rfl, rfl⟩)
      | (go_at_call 22; refine (fix_Add _ _ _).mono ?_; rintro e w' ⟨rfl, rfl⟩)
      | (go_at_call 23; refine (ref_Add _ _ _).mono ?_; rintro e w' ⟨rfl, rfl⟩)
      | (go_at_call 24; refine (fix_Sub _ _ _).mono ?_; rintro e w' ⟨rfl, rfl⟩)
      | (go_at_call 25; refine (ref_Sub _ _ _).mono ?_; rintro e w' ⟨rfl, rfl⟩)
      | (go_at_call 15; refine (fix_Mul _ _ _).mono ?_; rintro e w' ⟨rfl, k, rfl⟩)
      | (go_at_call 26; refine (ref_Mul _ _ _).mono ?_; rintro e w' ⟨rfl, k, rfl⟩))
    go_ret
    exact ⟨rfl, drewN_below _⟩

set_option maxRecDepth 100000 in
theorem fixSays_lifted (os : Os) (started : os.Started) (H : Type) (enc : TypeId × Value → H) :
    ReturnsInHanded {} Try.checked os 7 .any (Rows.fixSaysSpec.pre6 enc Try.prog Try.f7 Rows.fixSaysRow.domain false) (Rows.fixSaysSpec.post enc Try.prog Try.f7 false true false false) := by
  refine lift_law (fn := Try.f7) started (by kernel_rfl) Try.func7
    (ChangeSpec.witness6 (enc := enc) (C := Try.checked) false ⟨#[], #[.int .i64 0, .int .i64 0], []⟩ 8 (by kernel_rfl) (by kernel_rfl) (by kernel_rfl) (by kernel_rfl)) (by kernel_rfl) rfl Try.underlying4 rfl ?_ ?_
  · intro ds h
    rw [Try.params7] at h
    match ds, h with
    | [d0, d1], _ => rfl
  · intro W args ds ps hA hlt hval hsz
    rw [Try.params7] at hA hval hsz
    obtain ⟨v0, vs0, d0, ds0, p0, q0, hargs, rfl, rfl, h0, r0⟩ := trodAll_cons hA
    obtain ⟨v1, vs1, d1, ds1, p1, q1, rfl, rfl, rfl, h1, r1⟩ := trodAll_cons r0
    obtain ⟨rfl, rfl, rfl⟩ := trodAll_nil r1
    obtain rfl : args = #[v0, v1] := by cases args; simp_all
    obtain ⟨b0, hv0⟩ := hval 0 3 v0 rfl rfl
    obtain ⟨b1, hv1⟩ := hval 1 3 v1 rfl rfl
    obtain ⟨a0, rfl, rfl, rfl, w0⟩ := open_int Try.underlying3 hv0 h0
    obtain ⟨a1, rfl, rfl, rfl, w1⟩ := open_int Try.underlying3 hv1 h1
    exact fixSays_walk a0 a1 W
theorem FixSays_holds : Rows.FixSaysSaid :=
  OpenClaim.holds_of_wide 7 Try.f7 rfl rfl rfl rfl rfl rfl rfl ⟨rfl, rfl, rfl, rfl, rfl⟩ rfl rfl rfl rfl rfl (by kernel_rfl) Try.func7 (by kernel_rfl)
    (of_decide_eq_true (by kernel_rfl)) (by unfold Func.isWrapper; first | (rw [if_pos (by decide +kernel)]; kernel_rfl) | (rw [if_neg (by decide +kernel)]; exact ⟨rfl, rfl⟩))
    (fun os started H enc _ => fixSays_lifted os started H enc)

end Go.Proofs.Ytflljldlfgpimaa
