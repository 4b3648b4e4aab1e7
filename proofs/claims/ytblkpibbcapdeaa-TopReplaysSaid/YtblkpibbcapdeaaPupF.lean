/- What comes out of a pupil: package pupil's forward, off: walks, each function once. -/
import Derived.Test.YtblkpibbcapdeaaPupBox
import Derived.Test.YtblkpibbcapdeaaVecAny
import Derived.Deep.AppendLies
import Derived.Deep.RegionHeld3
import Derived.BigRegion
import Derived.Outline
namespace Go.Proofs.Ytblkpibbcapdeaa
open Go.RowKit Pl

/-- What is below 0 is 0: the first k. -/
def reluK (xs : List Int) (k : Nat) : List Int := upto (fun j => if j < k then max (at0 xs j) 0 else at0 xs j) xs.length
def reluL (xs : List Int) : List Int := upto (fun j => max (at0 xs j) 0) xs.length
theorem reluK_length (xs : List Int) (k : Nat) : (reluK xs k).length = xs.length := upto_length _ _
theorem reluL_length (xs : List Int) : (reluL xs).length = xs.length := upto_length _ _
theorem reluK_zero (xs : List Int) : reluK xs 0 = xs := by
  apply list_ext_at0 (reluK_length _ _)
  intro j hj
  rw [reluK_length] at hj
  unfold reluK
  rw [at0_upto _ hj, if_neg (Nat.not_lt_zero j)]
theorem reluK_all (xs : List Int) : reluK xs xs.length = reluL xs := by
  apply list_ext_at0 (by rw [reluK_length, reluL_length])
  intro j hj
  rw [reluK_length] at hj
  unfold reluK reluL
  rw [at0_upto _ hj, at0_upto _ hj, if_pos hj]
theorem reluK_at (xs : List Int) {k : Nat} (hk : k < xs.length) : at0 (reluK xs k) k = at0 xs k := by
  unfold reluK
  rw [at0_upto _ hk, if_neg (Nat.lt_irrefl k)]
theorem reluK_step (xs : List Int) (k : Nat) : (reluK xs k).set k (max (at0 xs k) 0) = reluK xs (k + 1) := by
  apply List.ext_getElem (by rw [List.length_set, reluK_length, reluK_length])
  intro j h1 h2
  rw [List.length_set, reluK_length] at h1
  rw [List.getElem_set]
  unfold reluK
  split
  · rename_i h
    subst h
    simp [upto]
  · rename_i h
    simp only [upto, List.getElem_map, List.getElem_range]
    by_cases hj : j < k
    · rw [if_pos hj, if_pos (by omega)]
    · rw [if_neg hj, if_neg (by omega)]

/-- What comes out: the hidden layer; the outputs. -/
def hidL (r1 c1 : Nat) (a1 b1 x : List Int) : List Int := reluL (sumL (mulL a1 r1 c1 x) b1)
def outpL (r1 c1 r2 : Nat) (a1 b1 a2 b2 x : List Int) : List Int := sumL (mulL a2 r2 r1 (hidL r1 c1 a1 b1 x)) b2
theorem hidL_length (r1 c1 : Nat) (a1 b1 x : List Int) : (hidL r1 c1 a1 b1 x).length = r1 := by unfold hidL; rw [reluL_length, sumL_length, mulL_length]
theorem outpL_length (r1 c1 r2 : Nat) (a1 b1 a2 b2 x : List Int) : (outpL r1 c1 r2 a1 b1 a2 b2 x).length = r2 := by unfold outpL; rw [sumL_length, mulL_length]
/-- Two lists of the call's own. -/
def Fwd (w : World) (n m : Nat) (hs ys : List Int) (e : Ending) (w' : World) : Prop :=
  ∃ S s T t, e = .returned (.tuple #[.slice S n s, .slice T m t]) ∧ w'.ownsRow w.heap.size 3 1 (.slice S n s) n (hs.map (.int .i64)) ∧ w'.ownsRow w.heap.size 3 1 (.slice T m t) m (ys.map (.int .i64)) ∧ Below w.heap.size w w'

set_option maxRecDepth 100000 in
set_option maxHeartbeats 4000000 in
theorem pup_forward (H I O : Nat) (A1 : Option Addr) (n1 k1 : Nat) (a1 : List Int) (A2 : Option Addr) (n2 k2 : Nat) (a2 : List Int) (B1 : Option Addr) (d1 : Nat) (b1 : List Int) (B2 : Option Addr) (d2 : Nat) (b2 : List Int) (X : Option Addr) (xc : Nat) (x : List Int) (w : World)
    (i1 : Ints .i64 w A1 n1 a1) (i2 : Ints .i64 w A2 n2 a2) (j1 : Ints .i64 w B1 H b1) (j2 : Ints .i64 w B2 O b2) (ix : Ints .i64 w X I x) (hH : 1 ≤ H ∧ H ≤ 4) (hI : 1 ≤ I ∧ I ≤ 4) (hO : 1 ≤ O ∧ O ≤ 4) (e1 : n1 = H * I) (e2 : n2 = O * H) (g1 : n1 ≤ k1) (g2 : n2 ≤ k2) (o1 : okL a1 = true) (o2 : okL a2 = true) :
    Calls Try.prog 76 #[.agg #[.int .i64 H, .int .i64 I, .slice A1 n1 k1, .int .i64 O, .int .i64 H, .slice A2 n2 k2, .slice B1 H d1, .slice B2 O d2], .slice X I xc] w (Fwd w H O (hidL H I a1 b1 x) (outpL H I O a1 b1 a2 b2 x)) := by
  have HB := Blk.made w 100 #[.int .i64 H, .int .i64 I, .slice A1 n1 k1, .int .i64 O, .int .i64 H, .slice A2 n2 k2, .slice B1 H d1, .slice B2 O d2]
  have M1 := Lib.hid (fun W (q : Ints .i64 W A1 n1 a1) (q2 : Ints .i64 W X I x) => vec_Mul_ok H I A1 X n1 k1 xc a1 x W q q2 hH hI e1 g1 o1)
  have M2 := Lib.hid (fun W B d (q : Ints .i64 W A2 n2 a2) (y : List Int) (q2 : Ints .i64 W B H y) => vec_Mul_ok O H A2 B n2 k2 d a2 y W q q2 hO hH e2 g2 o2)
  have E1 := Lib.hid (mulL_length a1 H I x)
  have bw : Below w.heap.size w (w.alloc (.cells #[.int .i64 H, .int .i64 I, .slice A1 n1 k1, .int .i64 O, .int .i64 H, .slice A2 n2 k2, .slice B1 H d1, .slice B2 O d2] 100)) := (Below.refl _ _).alloc (Nat.le_refl _) _
  clear e1 e2 g1 g2 o1 o2
  obtain ⟨f0, f1, f2, f3, f4, f5, f6, f7⟩ := HB.pup
  go_enter Try.func76, Try.ntmps76
  go_wp2_with fail
  refine (M1.out _ (i1.alloc _) (ix.alloc _)).mono ?_
  rintro e w1 ⟨S1, s1, rfl, O1, hb1⟩
  rw [E1.out] at O1 ⊢
  have hw1 := Below.trans (B := w.heap.size) bw (hb1.mono bw.size)
  replace HB := HB.below hb1 HB.lt
  have hgw : w.heap.size + 1 ≤ w1.heap.size := by have := hb1.size; simpa using this
  clear f0 f1 f2 f3 f4 f5 f6 f7 hb1
  obtain ⟨f0, f1, f2, f3, f4, f5, f6, f7⟩ := HB.pup
  go_wp2_with fail
  refine (vec_Sum_ok S1 B1 H s1 d1 (mulL a1 H I x) b1 _ (Ints.of_own O1 E1.out) (j1.below hw1) (by omega)).mono ?_
  rintro e w2 ⟨S2, s2, rfl, O2, hb2⟩
  have E2 := Lib.hid (show (sumL (mulL a1 H I x) b1).length = H by rw [sumL_length, mulL_length])
  rw [E2.out] at O2 ⊢
  have hw2 := hw1.trans (hb2.mono hw1.size)
  obtain ⟨g, cp, hS, hg0, hgl⟩ := O2.form (by omega)
  obtain ⟨rfl, rfl⟩ : S2 = some ⟨g, 0, none⟩ ∧ s2 = cp := by injection hS with a _ c; exact ⟨a, c⟩
  obtain ⟨L, hL⟩ : ∃ L, L = sumL (mulL a1 H I x) b1 := ⟨_, rfl⟩
  have HLL := Lib.hid (show L.length = H by rw [hL]; exact E2.out)
  have HR := Lib.hid (show reluL L = hidL H I a1 b1 x by rw [hL]; rfl)
  rw [← hL] at O2
  clear hS f0 f1 f2 f3 f4 f5 f6 f7 O1 hL
  have O20 : w2.ownsRow w1.heap.size 3 1 (.slice (some ⟨g, 0, none⟩) H s2) H ((reluK L 0).map (.int .i64)) := by rw [reluK_zero]; exact O2
  clear O2
  go_wp2
  go_loopw [8, 27] (fun _ i wr => ∃ k : Nat, k ≤ H ∧ i = .int .i64 k ∧ wr.ownsRow w1.heap.size 3 1 (.slice (some ⟨g, 0, none⟩) H s2) H ((reluK L k).map (.int .i64)) ∧ Below w1.heap.size w1 wr) (fun _ i _ => H - (intOf i).toNat)
  case atStart => exact ⟨0, by omega, rfl, O20, hb2⟩
  case round =>
    clear O20
    obtain ⟨k, hk, rfl, ho, hb⟩ := hrel
    by_cases hlt : k < H
    · have c1 := ho.cellAt k (by omega)
      rw [List.getElem?_map, List.getElem?_eq_getElem (by rw [reluK_length, HLL.out]; omega), Option.map_some, ← at0_getElem, reluK_at L (by rw [HLL.out]; omega)] at c1
      have z1 := ho.frozenAt k
      have F : ∀ v, v = max (at0 L k) 0 → (wr.setCell ⟨g, k, none⟩ (.int .i64 v)).ownsRow w1.heap.size 3 1 (.slice (some ⟨g, 0, none⟩) H s2) H ((reluK L (k + 1)).map (.int .i64)) := fun v hv => by
        have h := (ho.stored k (.int .i64 v)).1
        rw [← List.map_set, hv, reluK_step L k] at h
        rw [hv]; exact h
      obtain ⟨y, hy⟩ : ∃ y, y = at0 L k := ⟨_, rfl⟩
      rw [← hy] at c1 F
      have HF := Lib.hid F
      clear hy F
      by_cases hy0 : 0 ≤ y
      · have V := Lib.hid (show y = max y 0 by omega)
        go_wp2
        go_roundw
        case rel => exact ⟨k + 1, by omega, by go_num, HF.out _ V.out, hb.setCell (p := ⟨g, k, none⟩) (ho.lt g rfl).1 _⟩
        case measure => simp [intOf]; omega
      · have V := Lib.hid (show 0 = max y 0 by omega)
        have hy1 : y ≤ 0 := by omega
        go_wp2
        go_roundw
        case rel => exact ⟨k + 1, by omega, by go_num, HF.out _ V.out, hb.setCell (p := ⟨g, k, none⟩) (ho.lt g rfl).1 _⟩
        case measure => simp [intOf]; omega
    · obtain rfl : H = k := by omega
      have hbs := hw1.size
      have hwr := hw1.trans (hb.mono hbs)
      have HRL := Lib.hid (show (hidL H I a1 b1 x).length = H from hidL_length _ _ _ _ _)
      rw [show reluK L H = hidL H I a1 b1 x by rw [← HR.out, ← HLL.out]; exact reluK_all L] at ho
      have OUT := Lib.hid (show outpL H I O a1 b1 a2 b2 x = sumL (mulL a2 O H (hidL H I a1 b1 x)) b2 from rfl)
      obtain ⟨hs, hhs⟩ : ∃ hs, hs = hidL H I a1 b1 x := ⟨_, rfl⟩
      rw [← hhs] at ho HRL OUT
      have HHS := Lib.hid hhs
      have HBr := HB.below hb (by omega)
      obtain ⟨f0, f1, f2, f3, f4, f5, f6, f7⟩ := HBr.pup
      have E4 := Lib.hid (mulL_length a2 O H hs)
      have E5 := Lib.hid (show (sumL (mulL a2 O H hs) b2).length = O by rw [sumL_length, mulL_length])
      clear hhs hlt
      go_wp2_with fail
      refine (M2.out _ (some ⟨g, 0, none⟩) s2 (i2.below hwr) hs (Ints.of_own ho HRL.out)).mono ?_
      rintro e w3 ⟨S3, s3, rfl, O3, hb3⟩
      rw [E4.out] at O3 ⊢
      have hw3 := hwr.trans (hb3.mono hwr.size)
      have HB3 := HBr.below hb3 HBr.lt
      clear f0 f1 f2 f3 f4 f5 f6 f7
      obtain ⟨f0, f1, f2, f3, f4, f5, f6, f7⟩ := HB3.pup
      go_wp2_with fail
      refine (vec_Sum_ok S3 B2 O s3 d2 (mulL a2 O H hs) b2 _ (Ints.of_own O3 E4.out) (j2.below hw3) (by omega)).mono ?_
      rintro e w4 ⟨S4, s4, rfl, O4, hb4⟩
      rw [E5.out] at O4 ⊢
      clear f0 f1 f2 f3 f4 f5 f6 f7
      go_wp2
      go_ret2
      refine ⟨_, _, _, _, rfl, by rw [← HHS.out]; exact own_base (own_below ho (bel_trans hb3 hb4)) hbs, ?_, hw3.trans (hb4.mono hw3.size)⟩
      rw [OUT.out]
      exact own_base O4 hw3.size
end Go.Proofs.Ytblkpibbcapdeaa
