/- Gradients: pupil.Grad, pupil.Loss, pupil.Forward: walks. -/
import Derived.Test.YtblkpibbcapdeaaPupG
import Derived.Deep.DeepCutAuto
import Derived.Deep.CutBlock
namespace Go.Proofs.Ytblkpibbcapdeaa
open Go.RowKit Pl

/-- What stands where the hidden layer is 0 is 0: the first k. -/
def maskK (h g : List Int) (k : Nat) : List Int := upto (fun j => if j < k ∧ at0 h j = 0 then 0 else at0 g j) g.length
def maskL (h g : List Int) : List Int := upto (fun j => if at0 h j = 0 then 0 else at0 g j) g.length
theorem maskK_length (h g : List Int) (k : Nat) : (maskK h g k).length = g.length := upto_length _ _
theorem maskL_length (h g : List Int) : (maskL h g).length = g.length := upto_length _ _
theorem maskK_zero (h g : List Int) : maskK h g 0 = g := by
  apply list_ext_at0 (maskK_length _ _ _)
  intro j hj
  rw [maskK_length] at hj
  unfold maskK
  rw [at0_upto _ hj, if_neg (by omega)]
theorem maskK_all (h g : List Int) : maskK h g g.length = maskL h g := by
  apply list_ext_at0 (by rw [maskK_length, maskL_length])
  intro j hj
  rw [maskK_length] at hj
  unfold maskK maskL
  rw [at0_upto _ hj, at0_upto _ hj]
  by_cases h0 : at0 h j = 0
  · rw [if_pos ⟨hj, h0⟩, if_pos h0]
  · rw [if_neg (by simp [h0]), if_neg h0]
theorem maskK_set (h g : List Int) (k : Nat) (h0 : at0 h k = 0) : (maskK h g k).set k 0 = maskK h g (k + 1) := by
  apply List.ext_getElem (by rw [List.length_set, maskK_length, maskK_length])
  intro j h1 h2
  rw [List.length_set, maskK_length] at h1
  rw [List.getElem_set]
  unfold maskK
  simp only [upto, List.getElem_map, List.getElem_range]
  by_cases hj : k = j
  · subst hj
    rw [if_pos rfl, if_pos ⟨by omega, h0⟩]
  · rw [if_neg hj]
    by_cases hk : j < k ∧ at0 h j = 0
    · rw [if_pos hk, if_pos ⟨by omega, hk.2⟩]
    · rw [if_neg hk, if_neg (by omega)]
theorem maskK_skip (h g : List Int) (k : Nat) (h0 : ¬ at0 h k = 0) : maskK h g k = maskK h g (k + 1) := by
  apply list_ext_at0 (by rw [maskK_length, maskK_length])
  intro j hj
  rw [maskK_length] at hj
  unfold maskK
  rw [at0_upto _ hj, at0_upto _ hj]
  by_cases hk : j < k ∧ at0 h j = 0
  · rw [if_pos hk, if_pos ⟨by omega, hk.2⟩]
  · rw [if_neg hk, if_neg (by
      rintro ⟨a, b⟩
      rcases Nat.lt_or_ge j k with h1 | h1
      · exact hk ⟨h1, b⟩
      · obtain rfl : j = k := by omega
        exact h0 b)]

def gB1 (H I O : Nat) (a1 b1 a2 b2 x t : List Int) : List Int := maskL (hidL H I a1 b1 x) (backL a2 O H (offL (outpL H I O a1 b1 a2 b2 x) t))
/-- The gradient, as a pupil. -/
def gradP (H I O : Nat) (a1 b1 a2 b2 x t : List Int) : Pup :=
  ⟨H, I, outerL (gB1 H I O a1 b1 a2 b2 x t) x, O, H, outerL (offL (outpL H I O a1 b1 a2 b2 x) t) (hidL H I a1 b1 x), gB1 H I O a1 b1 a2 b2 x t, offL (outpL H I O a1 b1 a2 b2 x) t⟩

theorem Blk.two' {w : World} {g : Nat} {t : TypeId} {a b : Value} (h : Blk w g t #[a, b]) : (w.cell? ⟨g, 0, none⟩ = some a ∧ w.cell? ⟨g, 1, none⟩ = some b) ∧ w.frozen? ⟨g, 0, none⟩ = false ∧ w.frozen? ⟨g, 1, none⟩ = false :=
  ⟨⟨h.cell 0, h.cell 1⟩, h.frozen 0, h.frozen 1⟩
theorem but_refl (g : Nat) (w : World) : But g w w := ⟨rfl, rfl, rfl, Nat.le_refl _, fun _ _ _ => rfl⟩
theorem but_put {g : Nat} {w w' : World} (h : But g w w') (i : Nat) (u : Value) : But g w (w'.setCell ⟨g, i, none⟩ u) := by
  have b := (Below.refl 0 w').setCell (p := ⟨g, i, none⟩) (Nat.zero_le _) u
  exact ⟨b.os.trans h.os, b.tape.trans h.tape, b.output.trans h.output, Nat.le_trans h.size b.size, fun k hk hne => (heap_setCell_other w' ⟨g, i, none⟩ k u hne).trans (h.block k hk hne)⟩
set_option maxRecDepth 100000 in
set_option maxHeartbeats 8000000 in
theorem pup_Grad_ok (H I O : Nat) (A1 : Option Addr) (n1 k1 : Nat) (a1 : List Int) (A2 : Option Addr) (n2 k2 : Nat) (a2 : List Int) (B1 : Option Addr) (d1 : Nat) (b1 : List Int) (B2 : Option Addr) (d2 : Nat) (b2 : List Int) (X : Option Addr) (xc : Nat) (x : List Int) (T : Option Addr) (tc : Nat) (t : List Int) (w : World)
    (i1 : Ints .i64 w A1 n1 a1) (i2 : Ints .i64 w A2 n2 a2) (j1 : Ints .i64 w B1 H b1) (j2 : Ints .i64 w B2 O b2) (ix : Ints .i64 w X I x) (it : Ints .i64 w T O t) (hP : pupE H I a1 O H a2 b1 b2 = 0) (g1 : n1 ≤ k1) (g2 : n2 ≤ k2) :
    Calls Try.prog 60 #[.agg #[.int .i64 H, .int .i64 I, .slice A1 n1 k1, .int .i64 O, .int .i64 H, .slice A2 n2 k2, .slice B1 H d1, .slice B2 O d2], .agg #[.slice X I xc, .slice T O tc]] w (PupOwn w (gradP H I O a1 b1 a2 b2 x t) 0) := by
  obtain ⟨p1, p2, _, _, _, _, _⟩ := pupE_ok hP
  obtain ⟨q1, q2, q3, q4⟩ := matE_ok p1
  obtain ⟨r1, _, r3, r4⟩ := matE_ok p2
  have hH : 1 ≤ H ∧ H ≤ 4 := by omega
  have hI : 1 ≤ I ∧ I ≤ 4 := by omega
  have hO : 1 ≤ O ∧ O ≤ 4 := by omega
  have e1 : n1 = H * I := by have := i1.len; have h2 : ((H * I : Nat) : Int) = (H : Int) * (I : Int) := Int.natCast_mul _ _; omega
  have e2 : n2 = O * H := by have := i2.len; have h2 : ((O * H : Nat) : Int) = (O : Int) * (H : Int) := Int.natCast_mul _ _; omega
  have n16 : n1 ≤ 16 := by rw [e1]; exact Nat.mul_le_mul hH.2 hI.2
  have n26 : n2 ≤ 16 := by rw [e2]; exact Nat.mul_le_mul hO.2 hH.2
  have hb0 : bothE H I a1 O H a2 b1 b2 I O = 0 := by unfold bothE; rw [if_neg (by simp [hP]), if_neg (by simp)]
  obtain ⟨W0, hW0⟩ : ∃ W0, W0 = ((w.alloc (.cells #[.int .i64 H, .int .i64 I, .slice A1 n1 k1, .int .i64 O, .int .i64 H, .slice A2 n2 k2, .slice B1 H d1, .slice B2 O d2] 100)).alloc (.cells #[.slice X I xc, .slice T O tc] 51)).alloc (.cells #[.int .i64 0, .int .i64 0, .slice none 0 0, .int .i64 0, .int .i64 0, .slice none 0 0, .slice none 0 0, .slice none 0 0] 100) := ⟨_, rfl⟩
  have HB : Blk W0 w.heap.size 100 #[.int .i64 H, .int .i64 I, .slice A1 n1 k1, .int .i64 O, .int .i64 H, .slice A2 n2 k2, .slice B1 H d1, .slice B2 O d2] := by rw [hW0]; exact ((Blk.made _ _ _).alloc _).alloc _
  have HX : Blk W0 (w.heap.size + 1) 51 #[.slice X I xc, .slice T O tc] := by rw [hW0]; exact (Blk.made' _ _ _ (by simp)).alloc _
  have HR : Blk W0 (w.heap.size + 1 + 1) 100 #[.int .i64 0, .int .i64 0, .slice none 0 0, .int .i64 0, .int .i64 0, .slice none 0 0, .slice none 0 0, .slice none 0 0] := by rw [hW0]; exact Blk.made' _ _ _ (by simp)
  have bw : Below w.heap.size w W0 := by rw [hW0]; exact (((Below.refl _ _).alloc (Nat.le_refl _) _).alloc (by simp) _).alloc (by simp; omega) _
  have HC := Lib.hid (fun W (q1 : Ints .i64 W A1 n1 a1) (q2 : Ints .i64 W A2 n2 a2) (q3 : Ints .i64 W B1 H b1) (q4 : Ints .i64 W B2 O b2) => pup_both H I A1 n1 k1 a1 O H A2 n2 k2 a2 B1 H d1 b1 B2 O d2 b2 X T I O xc tc W q1 q2 q3 q4 (by omega) (by omega) (by omega) (by omega))
  rw [hb0] at HC
  have HF := Lib.hid (fun W (q1 : Ints .i64 W A1 n1 a1) (q2 : Ints .i64 W A2 n2 a2) (q3 : Ints .i64 W B1 H b1) (y4 : Ints .i64 W B2 O b2) (q5 : Ints .i64 W X I x) => pup_forward H I O A1 n1 k1 a1 A2 n2 k2 a2 B1 d1 b1 B2 d2 b2 X xc x W q1 q2 q3 y4 q5 hH hI hO e1 e2 g1 g2 q4 r4)
  have HK := Lib.hid (fun W (q : Ints .i64 W A2 n2 a2) D dc ds (q2 : Ints .i64 W D O ds) => vec_Back_ok O H A2 D n2 k2 dc a2 ds W q q2 hO hH e2 r4)
  have i1' := i1.below bw
  have i2' := i2.below bw
  have j1' := j1.below bw
  have j2' := j2.below bw
  have ix' := ix.below bw
  have it' := it.below bw
  obtain ⟨f0, f1, f2, f3, f4, f5, f6, f7⟩ := HB.pup
  obtain ⟨⟨x0, x1⟩, _⟩ := HX.two'
  clear hb0 p1 p2 q1 q2 q3 q4 r1 r3 r4 e1 e2 hP
  go_enter Try.func60, Try.ntmps60
  go_wp2_with fail
  rw [← hW0]
  have HW0 := Lib.hid hW0
  clear hW0
  refine (HC.out _ i1' i2' j1' j2').mono ?_
  rintro e w1 ⟨rfl, hb1⟩
  have hs1 := Lib.hid (show w.heap.size + 3 ≤ w1.heap.size by have := hb1.size; have := HR.lt; omega)
  replace HB := HB.below hb1 HB.lt
  replace HX := HX.below hb1 HX.lt
  replace HR := HR.below hb1 HR.lt
  replace bw := bw.trans (hb1.mono bw.size)
  clear f0 f1 f2 f3 f4 f5 f6 f7 x0 x1 i1' i2' j1' j2' ix' it'
  obtain ⟨f0, f1, f2, f3, f4, f5, f6, f7⟩ := HB.pup
  obtain ⟨⟨x0, x1⟩, _⟩ := HX.two'
  go_wp2_with fail
  refine (HF.out _ (i1.below bw) (i2.below bw) (j1.below bw) (j2.below bw) (ix.below bw)).mono ?_
  rintro e w2 ⟨S, s, Y, yc, rfl, OS, OY, hb2⟩
  have HHL := Lib.hid (hidL_length H I a1 b1 x)
  have HYL := Lib.hid (outpL_length H I O a1 b1 a2 b2 x)
  have HG := Lib.hid (show gradP H I O a1 b1 a2 b2 x t = ⟨H, I, outerL (gB1 H I O a1 b1 a2 b2 x t) x, O, H, outerL (offL (outpL H I O a1 b1 a2 b2 x) t) (hidL H I a1 b1 x), gB1 H I O a1 b1 a2 b2 x t, offL (outpL H I O a1 b1 a2 b2 x) t⟩ from rfl)
  have HB1 := Lib.hid (show gB1 H I O a1 b1 a2 b2 x t = maskL (hidL H I a1 b1 x) (backL a2 O H (offL (outpL H I O a1 b1 a2 b2 x) t)) from rfl)
  obtain ⟨hs, hhs⟩ : ∃ hs, hs = hidL H I a1 b1 x := ⟨_, rfl⟩
  obtain ⟨ys, hys⟩ : ∃ ys, ys = outpL H I O a1 b1 a2 b2 x := ⟨_, rfl⟩
  rw [← hhs] at OS HHL HG HB1
  rw [← hys] at OY HYL HG HB1
  have bw2 := bw.trans (hb2.mono bw.size)
  have HXb := HX.below hb2 HX.lt
  have HBb := HB.below hb2 HB.lt
  have HRb := HR.below hb2 HR.lt
  clear f0 f1 f2 f3 f4 f5 f6 f7 x0 x1 HB HX HR HF HC hhs hys
  obtain ⟨f0, f1, f2, f3, f4, f5, f6, f7⟩ := HBb.pup
  obtain ⟨⟨x0, x1⟩, _⟩ := HXb.two'
  go_wp2_with fail
  refine (pup_off Y T O yc tc ys t _ (Ints.of_own OY HYL.out) (it.below bw2) (by omega)).mono ?_
  rintro e w3 ⟨D, dc, rfl, OD, hb3⟩
  have HDL := Lib.hid (show (offL ys t).length = O by rw [offL_length]; exact HYL.out)
  rw [HDL.out] at OD ⊢
  obtain ⟨ds, hds⟩ : ∃ ds, ds = offL ys t := ⟨_, rfl⟩
  rw [← hds] at OD HDL HG HB1
  have bw3 := bw2.trans (hb3.mono bw2.size)
  have HX3 := HXb.below hb3 HXb.lt
  have HB3 := HBb.below hb3 HBb.lt
  have HR3 := HRb.below hb3 HRb.lt
  have OS3 := own_below OS hb3
  have OD3 := OD
  have sz1 : w.heap.size + 3 ≤ w1.heap.size := by have := HRb.lt; have := hs1.out; omega
  have sz2 := hb2.size
  have sz3 := hb3.size
  clear f0 f1 f2 f3 f4 f5 f6 f7 x0 x1 HBb HXb HRb hds OY OS OD
  obtain ⟨f0, f1, f2, f3, f4, f5, f6, f7⟩ := HB3.pup
  obtain ⟨⟨x0, x1⟩, _⟩ := HX3.two'
  go_wp2_with fail
  refine (HK.out _ (i2.below bw3) D dc ds (Ints.of_own OD3 HDL.out)).mono ?_
  rintro e w4 ⟨G, gc, rfl, OG, hb4⟩
  have HGL := Lib.hid (backL_length a2 O H ds)
  rw [HGL.out] at OG ⊢
  obtain ⟨gs, hgs⟩ : ∃ gs, gs = backL a2 O H ds := ⟨_, rfl⟩
  rw [← hgs] at OG HGL HB1
  have bw4 := bw3.trans (hb4.mono bw3.size)
  have HX4 := HX3.below hb4 HX3.lt
  have HB4 := HB3.below hb4 HB3.lt
  have HR4 := HR3.below hb4 HR3.lt
  have OS4 := own_below OS3 hb4
  have OD4 := own_below OD3 hb4
  have lt1 := HX3.lt
  have lt2 := HB3.lt
  have lt3 := HR3.lt
  obtain ⟨gg, cp, hS, hg0, hgl⟩ := OG.form (by omega)
  obtain ⟨rfl, rfl⟩ : G = some ⟨gg, 0, none⟩ ∧ gc = cp := by injection hS with a _ c; exact ⟨a, c⟩
  have OG0 : w4.ownsRow w3.heap.size 3 1 (.slice (some ⟨gg, 0, none⟩) H gc) H ((maskK hs gs 0).map (.int .i64)) := by rw [maskK_zero]; exact OG
  have IS3 := Ints.of_own OS3 HHL.out
  clear f0 f1 f2 f3 f4 f5 f6 f7 x0 x1 HK hgs OG hS HB3 OS4 OD4 HX4 HB4 HR4 bw4
  go_wp2
  go_loopw [12, 41] (fun _ j wr => ∃ k : Nat, k ≤ H ∧ j = .int .i64 k ∧ wr.ownsRow w3.heap.size 3 1 (.slice (some ⟨gg, 0, none⟩) H gc) H ((maskK hs gs k).map (.int .i64)) ∧ Below w3.heap.size w3 wr) (fun _ j _ => H - (intOf j).toNat)
  case atStart => exact ⟨0, by omega, rfl, OG0, hb4⟩
  case round =>
    clear OG0
    obtain ⟨k, hk, rfl, ho, hb⟩ := hrel
    by_cases hlt : k < H
    · obtain ⟨b, off, hSe, hbl, hcl⟩ := (IS3.below hb).cells (by omega)
      have c1 := hcl k hlt
      have z1 := ho.frozenAt k
      have c2 := ho.cellAt k (by omega)
      rw [List.getElem?_map, List.getElem?_eq_getElem (by rw [maskK_length, HGL.out]; omega), Option.map_some] at c2
      subst hSe
      by_cases h0 : at0 hs k = 0
      · have M := Lib.hid (maskK_set hs gs k h0)
        rw [h0] at c1
        have HO := Lib.hid (show (wr.setCell ⟨gg, k, none⟩ (.int .i64 0)).ownsRow w3.heap.size 3 1 (.slice (some ⟨gg, 0, none⟩) H gc) H ((maskK hs gs (k + 1)).map (.int .i64)) by
          have h := (ho.stored k (.int .i64 0)).1
          rw [← List.map_set, M.out] at h; exact h)
        have hgl' := (ho.lt gg rfl).1
        clear h0 hcl ho
        go_wp2
        go_roundw
        case rel => exact ⟨k + 1, by omega, by go_num, HO.out, hb.setCell (p := ⟨gg, k, none⟩) hgl' _⟩
        case measure => simp [intOf]; omega
      · have M := Lib.hid (maskK_skip hs gs k h0)
        obtain ⟨y, hy⟩ : ∃ y, y = at0 hs k := ⟨_, rfl⟩
        rw [← hy] at c1 h0
        have t0 : (y == 0) = false := by rw [beq_eq_false_iff_ne]; exact h0
        clear hcl hy h0
        go_wp2
        go_roundw
        case rel => exact ⟨k + 1, by omega, by go_num, by rw [← M.out]; exact ho, hb⟩
        case measure => simp [intOf]; omega
    · obtain rfl : H = k := by omega
      clear hlt
      have bwr := bw3.trans (hb.mono bw3.size)
      have HXr := HX3.below hb lt1
      have HRr := HR3.below hb lt3
      have IS := IS3.below hb
      have ID := (Ints.of_own OD3 HDL.out).below hb
      have OSr := own_below OS3 hb
      have ODr := own_below OD3 hb
      rw [show maskK hs gs H = maskL hs gs by rw [← HGL.out]; exact maskK_all hs gs] at ho
      have HML := Lib.hid (show (maskL hs gs).length = H by rw [maskL_length]; exact HGL.out)
      obtain ⟨ms, hms⟩ : ∃ ms, ms = maskL hs gs := ⟨_, rfl⟩
      rw [← hms] at ho HML HB1
      have x0 : ∀ o, (wr.alloc o).cell? ⟨w.heap.size + 1, 0, none⟩ = some (.slice X I xc) := fun o => (HXr.alloc o).cell 0
      have hbs := hb.size
      have IM := Ints.of_own ho HML.out
      have ixr := ix.below bwr
      obtain ⟨z, hz⟩ : ∃ z, z = wr.heap.size := ⟨_, rfl⟩
      have HZ := Lib.hid hz
      clear hms OS3 OD3 hz
      go_wp2_with fail
      refine (vec_Outer_ok (some ⟨gg, 0, none⟩) X H gc I xc ms x _ (by exact IM.alloc _) (by exact ixr.alloc _) hH hI).mono ?_
      rintro e w5 ⟨P1, c1, rfl, OP1, hb5⟩
      have HZ5 : Blk w5 z 100 #[.int .i64 0, .int .i64 0, .slice none 0 0, .int .i64 0, .int .i64 0, .slice none 0 0, .slice none 0 0, .slice none 0 0] := by rw [HZ.out]; exact (Blk.made wr _ _).below hb5 (by simp)
      have B5 : Below z wr w5 := by rw [HZ.out]; exact ((Below.refl wr.heap.size wr).alloc (Nat.le_refl _) _).trans (hb5.mono (by simp))
      have OP1' : w5.ownsRow (z + 1) 3 1 (.slice P1 (outerL ms x).length c1) (outerL ms x).length ((outerL ms x).map (.int .i64)) := by rw [HZ.out]; simpa using OP1
      obtain ⟨c0, c1', c2, c3, c4, c5, c6, c7⟩ := HZ5.pup
      obtain ⟨z0, z1, z2, z3, z4, z5, z6, z7⟩ := HZ5.pupz
      clear x0 OP1 hb5
      rw [← HZ.out]
      go_wp2_with fail
      obtain ⟨u, hu⟩ : ∃ u, u = ((w5.setCell ⟨z, 0, none⟩ (.int .i64 H)).setCell ⟨z, 1, none⟩ (.int .i64 I)).setCell ⟨z, 2, none⟩ (.slice P1 (outerL ms x).length c1) := ⟨_, rfl⟩
      rw [← hu]
      have HZu : Blk u z 100 #[.int .i64 H, .int .i64 I, .slice P1 (outerL ms x).length c1, .int .i64 0, .int .i64 0, .slice none 0 0, .slice none 0 0, .slice none 0 0] := by rw [hu]; exact ((HZ5.put 0 _).put 1 _).put 2 _
      have Bu : Below z wr u := by rw [hu]; exact ((B5.setCell (p := ⟨z, 0, none⟩) (Nat.le_refl _) _).setCell (p := ⟨z, 1, none⟩) (Nat.le_refl _) _).setCell (p := ⟨z, 2, none⟩) (Nat.le_refl _) _
      have OP1u : u.ownsRow (z + 1) 3 1 (.slice P1 (outerL ms x).length c1) (outerL ms x).length ((outerL ms x).map (.int .i64)) := by
        rw [hu]
        exact own_far (own_far (own_far OP1' (p := ⟨z, 0, none⟩) (Nat.lt_succ_self _) _) (p := ⟨z, 1, none⟩) (Nat.lt_succ_self _) _) (p := ⟨z, 2, none⟩) (Nat.lt_succ_self _) _
      have BU : Below wr.heap.size wr u := by rw [← HZ.out]; exact Bu
      clear hu c0 c1' c2 c3 c4 c5 c6 c7 z0 z1 z2 z3 z4 z5 z6 z7 HZ5 B5 OP1' Bu
      refine (vec_Outer_ok D S O dc H s ds hs u (ID.below BU) (IS.below BU) hO hH).mono ?_
      rintro e w6 ⟨P2, c2', rfl, OP2, hb6⟩
      have HZ6 := HZu.below hb6 HZu.lt
      have B6 : Below wr.heap.size wr w6 := BU.trans (hb6.mono BU.size)
      have OP16 := own_below OP1u hb6
      have zu := HZu.lt
      obtain ⟨c0, c1', c2, c3, c4, c5, c6, c7⟩ := HZ6.pup
      obtain ⟨z0, z1, z2, z3, z4, z5, z6, z7⟩ := HZ6.pupz
      clear HZu OP1u hb6
      go_upto_region 17 with fail
      obtain ⟨v, hv⟩ : ∃ v, v = ((((w6.setCell ⟨z, 3, none⟩ (.int .i64 O)).setCell ⟨z, 4, none⟩ (.int .i64 H)).setCell ⟨z, 5, none⟩ (.slice P2 (outerL ds hs).length c2')).setCell ⟨z, 6, none⟩ (.slice (some ⟨gg, 0, none⟩) H gc)).setCell ⟨z, 7, none⟩ (.slice D O dc) := ⟨_, rfl⟩
      rw [← hv]
      have HZv : Blk v z 100 #[.int .i64 H, .int .i64 I, .slice P1 (outerL ms x).length c1, .int .i64 O, .int .i64 H, .slice P2 (outerL ds hs).length c2', .slice (some ⟨gg, 0, none⟩) H gc, .slice D O dc] := by rw [hv]; exact ((((HZ6.put 3 _).put 4 _).put 5 _).put 6 _).put 7 _
      have But5 : But z w6 v := by rw [hv]; exact but_put (but_put (but_put (but_put (but_put (but_refl _ _) 3 _) 4 _) 5 _) 6 _) 7 _
      have Bv : Below wr.heap.size wr v := B6.trans (But5.below (by rw [HZ.out]; exact Nat.le_refl _) B6.size)
      have HRv := HRr.below Bv HRr.lt
      have OP1v := own_but OP16 But5 (Nat.lt_succ_self _)
      have OP2v := own_but OP2 But5 zu
      have OMv := own_below ho Bv
      have ODv := own_below ODr Bv
      clear hv c0 c1' c2 c3 c4 c5 c6 c7 z0 z1 z2 z3 z4 z5 z6 z7 HZ6 But5 OP16 OP2
      obtain ⟨c0, c1', c2, c3, c4, c5, c6, c7⟩ := HZv.pup
      obtain ⟨y0, y1, y2, y3, y4, y5, y6, y7⟩ := HRv.pup
      obtain ⟨z0, z1, z2, z3, z4, z5, z6, z7⟩ := HRv.pupz
      have sv := Bv.size
      have LM := Lib.hid HML.out
      obtain ⟨ρ, hρ⟩ : ∃ ρ, ρ = w.heap.size + 1 + 1 := ⟨_, rfl⟩
      have HRHO := Lib.hid hρ
      have bv0 : Below w.heap.size w v := bwr.trans (Bv.mono bwr.size)
      go_wp2
      refine bodyPost_ret (v := .tuple #[.agg #[.int .i64 H, .int .i64 I, .slice P1 (outerL ms x).length c1, .int .i64 O, .int .i64 H, .slice P2 (outerL ds hs).length c2', .slice (some ⟨gg, 0, none⟩) H gc, .slice D O dc], .int .i64 0]) (by simp [results, Try.results60, go_sem, y0, y1, y2, y3, y4, y5, y6, y7]) rfl ?_
      have B8 : But ρ v ((((((((v.setCell ⟨ρ, 0, none⟩ (.int .i64 H)).setCell ⟨ρ, 1, none⟩ (.int .i64 I)).setCell ⟨ρ, 2, none⟩ (.slice P1 (outerL ms x).length c1)).setCell ⟨ρ, 3, none⟩ (.int .i64 O)).setCell ⟨ρ, 4, none⟩ (.int .i64 H)).setCell ⟨ρ, 5, none⟩ (.slice P2 (outerL ds hs).length c2')).setCell ⟨ρ, 6, none⟩ (.slice (some ⟨gg, 0, none⟩) H gc)).setCell ⟨ρ, 7, none⟩ (.slice D O dc)) :=
        but_put (but_put (but_put (but_put (but_put (but_put (but_put (but_put (but_refl _ _) 0 _) 1 _) 2 _) 3 _) 4 _) 5 _) 6 _) 7 _
      have hzw : w.heap.size + 3 ≤ z := by rw [HZ.out]; omega
      have hw3 : w.heap.size + 3 ≤ w3.heap.size := by omega
      have hw2' : w.heap.size + 3 ≤ w2.heap.size := by omega
      have hu3 : w.heap.size + 3 ≤ u.heap.size := by have := BU.size; omega
      have R1 := own_base (own_but OP1v B8 (by omega)) (show w.heap.size ≤ z + 1 by omega)
      have R2 := own_base (own_but OP2v B8 (by omega)) (show w.heap.size ≤ u.heap.size by omega)
      have R3 := own_base (own_but OMv B8 (by omega)) (show w.heap.size ≤ w3.heap.size by omega)
      have R4 := own_base (own_but ODv B8 (by omega)) (show w.heap.size ≤ w2.heap.size by omega)
      have B9 : Below w.heap.size w _ := bv0.trans (B8.below (by omega) bv0.size)
      rw [hρ] at R1 R2 R3 R4 B9
      rw [HG.out, HB1.out]
      exact ⟨_, _, _, _, _, _, _, _, by dsimp only; rw [HML.out, HDL.out], R1, R2, by dsimp only; rw [HML.out]; exact R3, by dsimp only; rw [HDL.out]; exact R4, B9⟩
end Go.Proofs.Ytblkpibbcapdeaa
