/- The law PupilSays holds of the given program for every input. No condition. -/
import Derived.Test.YtgfidgepplfcbaaPupBox
import Derived.Test.YtgfidgepplfcbaaRefPup
import Derived.Test.YtgfidgepplfcbaaArgs
import Derived.Deep.DeepCutAuto
import Derived.Deep.CutBlock
namespace Go.Proofs.Ytgfidgepplfcbaa
open Go.ChangeShapes Go.WideShapes Go.ChangeAt Go.RowKit Pl

theorem forall_and8 {α : Sort _} {p0 p1 p2 p3 p4 p5 p6 p7 : α → Prop} (h : ∀ o, p0 o ∧ p1 o ∧ p2 o ∧ p3 o ∧ p4 o ∧ p5 o ∧ p6 o ∧ p7 o) : (∀ o, p0 o) ∧ (∀ o, p1 o) ∧ (∀ o, p2 o) ∧ (∀ o, p3 o) ∧ (∀ o, p4 o) ∧ (∀ o, p5 o) ∧ (∀ o, p6 o) ∧ (∀ o, p7 o) :=
  ⟨fun o => (h o).1, fun o => (h o).2.1, fun o => (h o).2.2.1, fun o => (h o).2.2.2.1, fun o => (h o).2.2.2.2.1, fun o => (h o).2.2.2.2.2.1, fun o => (h o).2.2.2.2.2.2.1, fun o => (h o).2.2.2.2.2.2.2⟩
theorem Ints.piece {w : World} {A : Option Addr} {n : Nat} {xs : List Int} (hx : Ints .i64 w A n xs) (i : Nat) {m : Nat} (h : i + m ≤ n) : Ints .i64 w (A.map (·.add i)) m ((xs.drop i).take m) :=
  hx.cut h fun _ b off e => by rw [e]; simp [Go.WideShapes.add_plain]
theorem shapeP_box {w : World} {g i h o n cap : Nat} {C : Option Addr} {xs : List Int} {k2 k3 k4 : Nat}
    (hB : Blk w g 26 #[.int .i64 h, .int .i64 i, .slice C (h * i) cap, .int .i64 o, .int .i64 h, .slice (C.map (·.add (h * i + h))) (o * h) k2, .slice (C.map (·.add (h * i))) h k3, .slice (C.map (·.add (h * i + h + o * h))) o k4])
    (hx : Ints .i64 w C n xs) (hn : n = h * i + h + o * h + o) : PupBox w g (shapeP (i : Int).toNat (h : Int).toNat (o : Int).toNat xs) := by
  simp only [Int.toNat_natCast]
  have c1 := hx.piece 0 (m := h * i) (by omega)
  have c2 := hx.piece (h * i + h) (m := o * h) (by omega)
  have c3 := hx.piece (h * i) (m := h) (by omega)
  have c4 := hx.piece (h * i + h + o * h) (m := o) (by omega)
  have e0 : C.map (·.add 0) = C := by
    cases C with
    | none => rfl
    | some a => rfl
  rw [e0, List.drop_zero] at c1
  have m1 := c1.len
  have m2 := c2.len
  have m3 := c3.len
  have m4 := c4.len
  refine ⟨C, cap, C.map (·.add (h * i + h)), k2, C.map (·.add (h * i)), k3, C.map (·.add (h * i + h + o * h)), k4, ?_, ?_, ?_, ?_, ?_⟩
  · simp only [shapeP, m1, m2, m3, m4]; exact hB
  · simp only [shapeP]; rw [m1]; exact c1
  · simp only [shapeP]; rw [m2]; exact c2
  · simp only [shapeP]; rw [m3]; exact c3
  · simp only [shapeP]; rw [m4]; exact c4
/-- Behind the law's first if: what it expects of Flat. -/
def SaysA (w : World) (cs : Array Value) (L : List Int) (fl : Value) (wx : World) : Prop :=
  ∃ A c, fl = .slice A L.length c ∧ Ints .i64 wx A L.length L ∧ Below w.heap.size w wx ∧ Blk wx w.heap.size 26 cs
/-- Behind the law's switch: what it expects of Shape. -/
def SaysB (wa : World) (x : Int) (P : Pup) (e : Value) (wx : World) : Prop := e = .int .i64 x ∧ PupBox wx wa.heap.size P ∧ Below wa.heap.size wa wx

set_option maxRecDepth 100000 in
set_option maxHeartbeats 4000000 in
theorem pupilSays_walk (r1 c1 : Int) (A1 : Option Addr) (n1 k1 : Nat) (a1 : List Int) (r2 c2 : Int) (A2 : Option Addr) (n2 k2 : Nat) (a2 : List Int) (B1 : Option Addr) (m1 d1 : Nat) (b1 : List Int) (B2 : Option Addr) (m2 d2 : Nat) (b2 : List Int) (i h o : Int) (C : Option Addr) (n cap : Nat) (xs : List Int) (w : World) (i1 : Ints .i64 w A1 n1 a1) (i2 : Ints .i64 w A2 n2 a2) (j1 : Ints .i64 w B1 m1 b1) (j2 : Ints .i64 w B2 m2 b2) (hx : Ints .i64 w C n xs) (h1 : n1 ≤ 9223372036854775807) (h2 : n2 ≤ 9223372036854775807) (h3 : m1 ≤ 9223372036854775807) (h4 : m2 ≤ 9223372036854775807) (hn : n ≤ 9223372036854775807) (hcap : n ≤ cap) :
    Calls Try.prog 3 #[(.agg #[.int .i64 r1, .int .i64 c1, .slice A1 n1 k1, .int .i64 r2, .int .i64 c2, .slice A2 n2 k2, .slice B1 m1 d1, .slice B2 m2 d2]), .int .i64 i, .int .i64 h, .int .i64 o, .slice C n cap] w fun e w' => e = .returned (.bool true) ∧ Below w.heap.size w w' := by
  have HR := Lib.hid (fun W (q1 : Ints .i64 W A1 n1 a1) (q2 : Ints .i64 W A2 n2 a2) (q3 : Ints .i64 W B1 m1 b1) (q4 : Ints .i64 W B2 m2 b2) => ref_Pupil r1 c1 A1 n1 k1 a1 r2 c2 A2 n2 k2 a2 B1 m1 d1 b1 B2 m2 d2 b2 W q1 q2 q3 q4 h1 h2 h3 h4)
  go_enter Try.func3, Try.ntmps3
  go_upto_if 20 with (go_at_call 15; refine (HR.out _ (i1.alloc _) (i2.alloc _) (j1.alloc _) (j2.alloc _)).mono ?_; rintro e x1 ⟨rfl, hb1⟩)
  have hb : Below w.heap.size w x1 := Below.trans (B := w.heap.size) (by repeat (first | exact Below.refl _ _ | assumption | refine bel_drewN ?_ _ | refine Below.drew ?_ | (refine Below.alloc ?_ (by simp <;> omega) _) | (refine Below.setCell ?_ (by simp <;> omega) _))) (hb1.mono (by simp <;> omega))
  have hP : Blk x1 w.heap.size 26 #[.int .i64 r1, .int .i64 c1, .slice A1 n1 k1, .int .i64 r2, .int .i64 c2, .slice A2 n2 k2, .slice B1 m1 d1, .slice B2 m2 d2] := (Blk.made w _ _).below hb1 (by simp <;> omega)
  clear hb1
  go_cut [12] (fun fl wx => SaysA w #[.int .i64 r1, .int .i64 c1, .slice A1 n1 k1, .int .i64 r2, .int .i64 c2, .slice A2 n2 k2, .slice B1 m1 d1, .slice B2 m2 d2] (flatO r1 c1 a1 r2 c2 a2 b1 b2) fl wx)
  case first =>
    by_cases hE : pupE r1 c1 a1 r2 c2 a2 b1 b2 = 0
    · have t : (pupE r1 c1 a1 r2 c2 a2 b1 b2 == 0) = true := by rw [beq_iff_eq]; exact hE
      have HF := Lib.hid (show flatO r1 c1 a1 r2 c2 a2 b1 b2 = flatP a1 b1 a2 b2 from if_pos hE)
      have HL := Lib.hid (flatP_len40 hE)
      clear hE
      obtain ⟨p0, p1, p2, p3, p4, p5, p6, p7⟩ := hP.pup
      go_wp2_with fail
      refine (ref_Flat r1 c1 A1 n1 k1 a1 r2 c2 A2 n2 k2 a2 B1 m1 d1 b1 B2 m2 d2 b2 _ (by exact i1.below hb) (by exact i2.below hb) (by exact j1.below hb) (by exact j2.below hb) HL.out).mono ?_
      rintro e x2 ⟨A, c, rfl, ho, hb2⟩
      have hP2 := hP.below hb2 hP.lt
      clear p0 p1 p2 p3 p4 p5 p6 p7
      go_wp2
      go_meet
      case rel => exact ⟨A, c, by rw [HF.out], by rw [HF.out]; exact Ints.of_own ho rfl, bel_trans hb hb2, hP2⟩
    · have t : (pupE r1 c1 a1 r2 c2 a2 b1 b2 == 0) = false := beq_eq_false_iff_ne.2 hE
      have HF := Lib.hid (show flatO r1 c1 a1 r2 c2 a2 b1 b2 = [] from if_neg hE)
      clear hE
      go_wp2
      go_meet
      case rel => exact ⟨none, 0, by rw [HF.out]; rfl, by rw [HF.out]; exact Ints.nil _ _ _, hb, hP⟩
  case rest =>
    obtain ⟨A, c, rfl, hI, hbx, hPx⟩ := hcut
    clear hb hP
    obtain ⟨wa, rfl⟩ : ∃ wa : World, wa = wc := ⟨_, rfl⟩
    have hl40 := flatO_len r1 c1 a1 r2 c2 a2 b1 b2
    have i1x := i1.below hbx
    have i2x := i2.below hbx
    have j1x := j1.below hbx
    have j2x := j2.below hbx
    have hxx := hx.below hbx
    obtain ⟨p0, p1, p2, p3, p4, p5, p6, p7⟩ := hPx.pup
    go_wp2_with fail
    refine (pup_Flat_any r1 c1 A1 n1 k1 a1 r2 c2 A2 n2 k2 a2 B1 m1 d1 b1 B2 m2 d2 b2 _ i1x i2x j1x j2x h1 h2 h3 h4).mono ?_
    rintro e x2 ⟨A', c', rfl, hI2, hb2⟩
    have hP2 := hPx.below hb2 hPx.lt
    clear p0 p1 p2 p3 p4 p5 p6 p7
    obtain ⟨p0, p1, p2, p3, p4, p5, p6, p7⟩ := hP2.pup
    go_wp2_with fail
    refine (pup_Check r1 c1 A1 n1 k1 a1 r2 c2 A2 n2 k2 a2 B1 m1 d1 b1 B2 m2 d2 b2 _ (i1x.below hb2) (i2x.below hb2) (j1x.below hb2) (j2x.below hb2) h1 h2 h3 h4).mono ?_
    rintro e x3 ⟨rfl, hb3⟩
    have hb23 := bel_trans hb2 hb3
    have hI3 := hI.below hb23
    have hI23 := hI2.below hb3
    clear p0 p1 p2 p3 p4 p5 p6 p7 hP2 hPx
    go_wp2_with fail
    refine (equalI_any A' A _ c' c _ _ _ _ hI23 hI3 (by omega)).mono ?_
    rintro e x4 ⟨rfl, k4, rfl⟩
    rw [decide_eq_true rfl]
    have hbw : Below w.heap.size w (x3.drewN k4) := bel_drewN (bel_trans hbx hb23) _
    have hx4 := hx.below hbw
    obtain ⟨wb, hWB⟩ : ∃ wb, wb = x3.drewN k4 := ⟨_, rfl⟩
    rw [← hWB] at hbw hx4 ⊢
    clear hWB hI23 hI3 hI2 hI hb2 hb3 hb23 i1x i2x j1x j2x hxx hbx
    go_upto_block 0 with fail
    go_cut [11] (fun e wx => SaysB wb (shapeE i h o xs) (shapeO i h o xs) e wx)
    case first =>
      have hbz : Below wb.heap.size wb (wb.alloc (.cells #[.int .i64 0, .int .i64 0, .slice none 0 0, .int .i64 0, .int .i64 0, .slice none 0 0, .slice none 0 0, .slice none 0 0] 26)) := (Below.refl _ _).alloc (Nat.le_refl _) _
      have hBz := PupBox.zero (Blk.made wb 26 #[.int .i64 0, .int .i64 0, .slice none 0 0, .int .i64 0, .int .i64 0, .slice none 0 0, .slice none 0 0, .slice none 0 0])
      by_cases hs : (1 ≤ i ∧ i ≤ 4) ∧ (1 ≤ h ∧ h ≤ 4) ∧ (1 ≤ o ∧ o ≤ 4)
      · obtain ⟨hi, hh, ho⟩ := hs
        have s1 := sideB_iff.2 hi
        have s2 := sideB_iff.2 hh
        have s3 := sideB_iff.2 ho
        by_cases hb : (xs.length : Int) ≠ sizeP i h o ∨ okL xs = false
        · have F1 := Lib.hid (show shapeE i h o xs = 5 by rw [shapeE_2 hi hh ho, if_pos hb])
          have F2 := Lib.hid (show shapeO i h o xs = .zero from if_neg (by rw [F1.out]; decide))
          rw [hx.len] at hb
          by_cases hl : (n : Int) = sizeP i h o
          · have hr := hb.resolve_left fun q => q hl
            have t1 : ((n : Int) != sizeP i h o) = false := by rw [bne_eq_false_iff_eq]; exact hl
            have HR := Lib.hid hr
            clear hb hl hr
            go_wp2_with (first
              | (go_at_call 20; refine (ref_In _ _ _ _).mono ?_; rintro e w' ⟨rfl, rfl⟩; rw [inB_side])
              | (go_at_call 21; refine (ref_Size i h o _ hi hh ho).mono ?_; rintro e w' ⟨rfl, rfl⟩)
              | (go_at_call 22; refine (ref_Right C n cap xs _ (hx4.alloc _) hn).mono ?_; rintro e w' ⟨rfl, k, rfl⟩; rw [HR.out]))
            go_meet
            case rel => exact ⟨by rw [F1.out], by rw [F2.out]; exact PupBox.zero ((Blk.made wb 26 #[.int .i64 0, .int .i64 0, .slice none 0 0, .int .i64 0, .int .i64 0, .slice none 0 0, .slice none 0 0, .slice none 0 0]).drewN _), bel_drewN hbz _⟩
          · have t1 : ((n : Int) != sizeP i h o) = true := by rw [bne_iff_ne]; exact hl
            clear hb hl
            go_wp2_with (first
              | (go_at_call 20; refine (ref_In _ _ _ _).mono ?_; rintro e w' ⟨rfl, rfl⟩; rw [inB_side])
              | (go_at_call 21; refine (ref_Size i h o _ hi hh ho).mono ?_; rintro e w' ⟨rfl, rfl⟩))
            go_meet
            case rel => exact ⟨by rw [F1.out], by rw [F2.out]; exact hBz, hbz⟩
        · have F1 := Lib.hid (show shapeE i h o xs = 0 by rw [shapeE_2 hi hh ho, if_neg hb])
          have F2 := Lib.hid (show shapeO i h o xs = shapeP i.toNat h.toNat o.toNat xs from if_pos F1.out)
          simp only [not_or, Bool.not_eq_false, ne_eq, Decidable.not_not] at hb
          obtain ⟨hl, hr⟩ := hb
          rw [hx.len] at hl
          have t1 : ((n : Int) != sizeP i h o) = false := by rw [bne_eq_false_iff_eq]; exact hl
          obtain ⟨i', rfl⟩ := Int.eq_ofNat_of_zero_le (show 0 ≤ i by omega)
          obtain ⟨h', rfl⟩ := Int.eq_ofNat_of_zero_le (show 0 ≤ h by omega)
          obtain ⟨o', rfl⟩ := Int.eq_ofNat_of_zero_le (show 0 ≤ o by omega)
          have HR := Lib.hid hr
          have hl2 : n = h' * i' + h' + o' * h' + o' := by
            unfold sizeP at hl
            rw [← Int.natCast_mul, ← Int.natCast_mul] at hl
            omega
          have HN := Lib.hid hl2
          clear hl hr hl2
          go_wp2_with (first
            | (go_at_call 20; refine (ref_In _ _ _ _).mono ?_; rintro e w' ⟨rfl, rfl⟩; rw [inB_side])
            | (go_at_call 21; refine (ref_Size i' h' o' _ hi hh ho).mono ?_; rintro e w' ⟨rfl, rfl⟩)
            | (go_at_call 22; refine (ref_Right C n cap xs _ (hx4.alloc _) hn).mono ?_; rintro e w' ⟨rfl, k, rfl⟩; rw [HR.out]))
          refine (ref_Shape i' h' o' C n cap _ hcap (by omega) (by omega) (by omega) (h' * i') (o' * h') rfl rfl HN.out).mono ?_
          rintro e w5 ⟨rfl, hb5⟩
          have hB5 : Blk w5 wb.heap.size 26 #[.int .i64 0, .int .i64 0, .slice none 0 0, .int .i64 0, .int .i64 0, .slice none 0 0, .slice none 0 0, .slice none 0 0] := ((Blk.made wb 26 #[.int .i64 0, .int .i64 0, .slice none 0 0, .int .i64 0, .int .i64 0, .slice none 0 0, .slice none 0 0, .slice none 0 0]).drewN _).below hb5 (by simp)
          have hb5w : Below wb.heap.size wb w5 := (bel_drewN hbz _).trans (hb5.mono (by simp))
          have hx5 := hx4.below hb5w
          obtain ⟨p0, p1, p2, p3, p4, p5, p6, p7⟩ := hB5.pup
          obtain ⟨z0, z1, z2, z3, z4, z5, z6, z7⟩ := hB5.pupz
          go_wp2
          have hB6 := (((((((hB5.put 0 (.int .i64 h')).put 1 (.int .i64 i')).put 2 (.slice C (h' * i') cap)).put 3 (.int .i64 o')).put 4 (.int .i64 h')).put 5 (.slice (C.map (·.add (h' * i' + h'))) (o' * h') (cap - (h' * i' + h')))).put 6 (.slice (C.map (·.add (h' * i'))) h' (cap - h' * i'))).put 7 (.slice (C.map (·.add (h' * i' + h' + o' * h'))) o' (cap - (h' * i' + h' + o' * h')))
          have hb6 := (((((((hb5w.setCell (p := ⟨wb.heap.size, 0, none⟩) (by simp) (.int .i64 h')).setCell (p := ⟨wb.heap.size, 1, none⟩) (by simp) (.int .i64 i')).setCell (p := ⟨wb.heap.size, 2, none⟩) (by simp) (.slice C (h' * i') cap)).setCell (p := ⟨wb.heap.size, 3, none⟩) (by simp) (.int .i64 o')).setCell (p := ⟨wb.heap.size, 4, none⟩) (by simp) (.int .i64 h')).setCell (p := ⟨wb.heap.size, 5, none⟩) (by simp) (.slice (C.map (·.add (h' * i' + h'))) (o' * h') (cap - (h' * i' + h')))).setCell (p := ⟨wb.heap.size, 6, none⟩) (by simp) (.slice (C.map (·.add (h' * i'))) h' (cap - h' * i'))).setCell (p := ⟨wb.heap.size, 7, none⟩) (by simp) (.slice (C.map (·.add (h' * i' + h' + o' * h'))) o' (cap - (h' * i' + h' + o' * h')))
          have RB := Lib.hid (shapeP_box hB6 (hx4.below hb6) HN.out)
          go_meet
          case rel => exact ⟨by rw [F1.out], by rw [F2.out]; exact RB.out, hb6⟩
      · have F1 := Lib.hid (shapeE_1 (xs := xs) hs)
        have F2 := Lib.hid (show shapeO i h o xs = .zero from if_neg (by rw [F1.out]; decide))
        cases s1 : sideB i
        · clear hs
          go_wp2_with (go_at_call 20; refine (ref_In _ _ _ _).mono ?_; rintro e w' ⟨rfl, rfl⟩; rw [inB_side])
          go_meet
          case rel => exact ⟨by rw [F1.out], by rw [F2.out]; exact hBz, hbz⟩
        · cases s2 : sideB h
          · clear hs
            go_wp2_with (go_at_call 20; refine (ref_In _ _ _ _).mono ?_; rintro e w' ⟨rfl, rfl⟩; rw [inB_side])
            go_meet
            case rel => exact ⟨by rw [F1.out], by rw [F2.out]; exact hBz, hbz⟩
          · have s3 : sideB o = false := by
              cases h3 : sideB o
              · rfl
              · exact absurd ⟨sideB_iff.1 s1, sideB_iff.1 s2, sideB_iff.1 h3⟩ hs
            clear hs
            go_wp2_with (go_at_call 20; refine (ref_In _ _ _ _).mono ?_; rintro e w' ⟨rfl, rfl⟩; rw [inB_side])
            go_meet
            case rel => exact ⟨by rw [F1.out], by rw [F2.out]; exact hBz, hbz⟩
    case rest =>
      obtain ⟨rfl, hBox, hbc⟩ := hcut
      obtain ⟨wd, rfl⟩ : ∃ wd : World, wd = wc := ⟨_, rfl⟩
      obtain ⟨E1, e1, E2, e2, E3, e3, E4, e4, hB, I1, I2, I3, I4⟩ := hBox
      obtain ⟨l1, l2, l3, l4⟩ := shapeO_small i h o xs
      go_wp2_with fail
      refine (pup_Shape_any i h o C n cap xs _ (hx4.below hbc) hcap hn).mono ?_
      rintro e w5 ⟨G1, g1, G2, g2, G3, g3, G4, g4, rfl, O1, O2, O3, O4, hb5⟩
      have J1 := (Ints.of_own O1 rfl).alloc
      have J2 := (Ints.of_own O2 rfl).alloc
      have J3 := (Ints.of_own O3 rfl).alloc
      have J4 := (Ints.of_own O4 rfl).alloc
      have K1 := (I1.below hb5).alloc
      have K2 := (I2.below hb5).alloc
      have K3 := (I3.below hb5).alloc
      have K4 := (I4.below hb5).alloc
      have hBB := hB.below hb5 hB.lt
      have q : ∀ o, _ := fun o => (hBB.alloc o).pup
      have hbf := hbw.trans ((bel_trans hbc hb5).mono hbw.size)
      clear O1 O2 O3 O4 I1 I2 I3 I4 hB hbc
      obtain ⟨q0, q1, q2, q3, q4, q5, q6, q7⟩ := forall_and8 q
      clear q
      go_wp2_with fail
      refine (ref_SamePupil_yes _ _ G1 _ g1 _ _ _ G2 _ g2 _ G3 _ g3 _ G4 _ g4 _ E1 e1 E2 e2 E3 e3 E4 e4 _ (by exact J1 _) (by exact J2 _) (by exact J3 _) (by exact J4 _) (by exact K1 _) (by exact K2 _) (by exact K3 _) (by exact K4 _) (by omega) (by omega) (by omega) (by omega)).mono ?_
      rintro e w6 ⟨rfl, hb6⟩
      go_wp2
      go_ret
      exact ⟨rfl, (hbf.alloc hbf.size _).trans (hb6.mono (by simp; have := hbf.size; omega))⟩

set_option maxRecDepth 100000 in
theorem pupilSays_lifted (os : Os) (started : os.Started) (H : Type) (enc : TypeId × Value → H) :
    ReturnsInHanded {} Try.checked os 3 .any (Rows.pupilSaysSpec.pre6 enc Try.prog Try.f3 Rows.pupilSaysRow.domain false) (Rows.pupilSaysSpec.post enc Try.prog Try.f3 false true false false) := by
  refine lift_law (fn := Try.f3) started (by kernel_rfl) Try.func3
    (ChangeSpec.witness6 (enc := enc) (C := Try.checked) false ⟨#[], #[.agg #[.int .i64 0, .int .i64 0, .slice none 0 0, .int .i64 0, .int .i64 0, .slice none 0 0, .slice none 0 0, .slice none 0 0], .int .i64 0, .int .i64 0, .int .i64 0, .slice none 0 0], []⟩ 8 (by kernel_rfl) (by kernel_rfl) (by kernel_rfl) (by kernel_rfl)) (by kernel_rfl) rfl Try.underlying4 rfl ?_ ?_
  · intro ds h
    rw [Try.params3] at h
    match ds, h with
    | [d0, d1, d2, d3, d4], _ => rfl
  · intro W args ds ps hA hlt hval hsz
    rw [Try.params3] at hA hval hsz
    obtain ⟨v0, vs0, d0, ds0, p0, q0, hargs, rfl, rfl, H0, T0⟩ := trodAll_cons hA
    obtain ⟨v1, vs1, d1, ds1, p1, q1, rfl, rfl, rfl, H1, T1⟩ := trodAll_cons T0
    obtain ⟨v2, vs2, d2, ds2, p2, q2, rfl, rfl, rfl, H2, T2⟩ := trodAll_cons T1
    obtain ⟨v3, vs3, d3, ds3, p3, q3, rfl, rfl, rfl, H3, T3⟩ := trodAll_cons T2
    obtain ⟨v4, vs4, d4, ds4, p4, q4, rfl, rfl, rfl, H4, T4⟩ := trodAll_cons T3
    obtain ⟨rfl, rfl, rfl⟩ := trodAll_nil T4
    obtain rfl : args = #[v0, v1, v2, v3, v4] := by cases args; simp_all
    obtain ⟨b0, hv0⟩ := hval 0 26 v0 rfl rfl
    obtain ⟨b1, hv1⟩ := hval 1 3 v1 rfl rfl
    obtain ⟨b2, hv2⟩ := hval 2 3 v2 rfl rfl
    obtain ⟨b3, hv3⟩ := hval 3 3 v3 rfl rfl
    obtain ⟨b4, hv4⟩ := hval 4 22 v4 rfl rfl
    obtain ⟨r1, c1, A1, n1, k1, a1, r2, c2, A2, n2, k2, a2, B1, m1, e1, y1, B2, m2, e2, y2, rfl, _, _, _, _, ⟨i1, l1, l2⟩, ⟨i2, l3, l4⟩, ⟨j1, l5, l6⟩, ⟨j2, l7, l8⟩⟩ := arg_pup (fun _ => rfl) hv0 H0
    obtain ⟨ii, rfl, _⟩ := arg_int hv1 H1
    obtain ⟨hh, rfl, _⟩ := arg_int hv2 H2
    obtain ⟨oo, rfl, _⟩ := arg_int hv3 H3
    obtain ⟨C, n, cap, xs, rfl, hx, l9, l10, _⟩ := arg_ints (fun _ => rfl) hv4 H4
    have hmx : maxLen = 9223372036854775807 := rfl
    exact pupilSays_walk r1 c1 A1 n1 k1 a1 r2 c2 A2 n2 k2 a2 B1 m1 e1 y1 B2 m2 e2 y2 ii hh oo C n cap xs W i1 i2 j1 j2 hx (by omega) (by omega) (by omega) (by omega) (by omega) l9
theorem PupilSays_holds : Rows.PupilSaysSaid :=
  OpenClaim.holds_of_wide 3 Try.f3 rfl rfl rfl rfl rfl rfl rfl ⟨rfl, rfl, rfl, rfl, rfl⟩ rfl rfl rfl rfl rfl (by kernel_rfl) Try.func3 (by kernel_rfl)
    (of_decide_eq_true (by kernel_rfl)) (by unfold Func.isWrapper; first | (rw [if_pos (by decide +kernel)]; kernel_rfl) | (rw [if_neg (by decide +kernel)]; exact ⟨rfl, rfl⟩))
    (fun os started H enc _ => pupilSays_lifted os started H enc)

end Go.Proofs.Ytgfidgepplfcbaa
