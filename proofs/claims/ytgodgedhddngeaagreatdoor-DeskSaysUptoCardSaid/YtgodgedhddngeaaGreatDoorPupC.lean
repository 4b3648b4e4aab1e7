/- What comes out of a pupil: package pupil's forward, off: walks, each function once. -/
import Derived.Test.YtgodgedhddngeaaGreatDoorPupBox
import Derived.Deep.DeepCutAuto
import Derived.Deep.CutBlock
set_option maxRecDepth 100000
set_option maxHeartbeats 16000000
namespace Go.Proofs.YtgodgedhddngeaaGreatDoor
open Go.RowKit Pl
def reluK (xs : List Int) (k : Nat) : List Int := upto (fun j => if j < k then max (at0 xs j) 0 else at0 xs j) xs.length
def reluL (xs : List Int) : List Int := upto (fun j => max (at0 xs j) 0) xs.length
theorem reluK_length (xs : List Int) (k : Nat) : (reluK xs k).length = xs.length := upto_length _ _
theorem reluL_length (xs : List Int) : (reluL xs).length = xs.length := upto_length _ _
theorem reluK_zero (xs : List Int) : reluK xs 0 = xs := by
 apply list_ext_at0 (reluK_length _ _)
 intro j hj
 rw [reluK_length] at hj
 unfold reluK
 rw [at0_upto _ hj, if_neg (Nat.not_lt_zero j)]
theorem reluK_all (xs : List Int) : reluK xs xs.length = reluL xs := by
 apply list_ext_at0 (by rw [reluK_length, reluL_length])
 intro j hj
 rw [reluK_length] at hj
 unfold reluK reluL
 rw [at0_upto _ hj, at0_upto _ hj, if_pos hj]
theorem reluK_at (xs : List Int) {k : Nat} (hk : k < xs.length) : at0 (reluK xs k) k = at0 xs k := by
 unfold reluK
 rw [at0_upto _ hk, if_neg (Nat.lt_irrefl k)]
theorem reluK_step (xs : List Int) (k : Nat) : (reluK xs k).set k (max (at0 xs k) 0) = reluK xs (k + 1) := by
 apply List.ext_getElem (by rw [List.length_set, reluK_length, reluK_length])
 intro j h1 h2
 rw [List.length_set, reluK_length] at h1
 rw [List.getElem_set]
 unfold reluK
 split
 ·rename_i h
  subst h
  simp [upto]
 ·rename_i h
  simp only [upto, List.getElem_map, List.getElem_range]
  by_cases hj : j < k
  ·rw [if_pos hj, if_pos (by omega)]
  ·rw [if_neg hj, if_neg (by omega)]
def hidL (r1 c1 : Nat) (a1 b1 x : List Int) : List Int := reluL (sumL (mulL a1 r1 c1 x) b1)
def outpL (r1 c1 r2 : Nat) (a1 b1 a2 b2 x : List Int) : List Int := sumL (mulL a2 r2 r1 (hidL r1 c1 a1 b1 x)) b2
theorem hidL_length (r1 c1 : Nat) (a1 b1 x : List Int) : (hidL r1 c1 a1 b1 x).length = r1 := by unfold hidL; rw [reluL_length, sumL_length, mulL_length]
theorem outpL_length (r1 c1 r2 : Nat) (a1 b1 a2 b2 x : List Int) : (outpL r1 c1 r2 a1 b1 a2 b2 x).length = r2 := by unfold outpL; rw [sumL_length, mulL_length]
def Fwd (w : World) (n m : Nat) (hs ys : List Int) (e : Ending) (w' : World) : Prop :=
 ∃ S s T t, e = .returned (.tuple #[.slice S n s, .slice T m t]) ∧ w'.ownsRow w.heap.size 3 1 (.slice S n s) n (hs.map (.int .i64)) ∧ w'.ownsRow w.heap.size 3 1 (.slice T m t) m (ys.map (.int .i64)) ∧ Below w.heap.size w w'
theorem pup_forward (H I O : Nat) (A1 : Option Addr) (n1 k1 : Nat) (a1 : List Int) (A2 : Option Addr) (n2 k2 : Nat) (a2 : List Int) (B1 : Option Addr) (d1 : Nat) (b1 : List Int) (B2 : Option Addr) (d2 : Nat) (b2 : List Int) (X : Option Addr) (xc : Nat) (x : List Int) (w : World)
  (i1 : Ints .i64 w A1 n1 a1) (i2 : Ints .i64 w A2 n2 a2) (j1 : Ints .i64 w B1 H b1) (j2 : Ints .i64 w B2 O b2) (ix : Ints .i64 w X I x) (hH : 1 ≤ H ∧ H ≤ 4) (hI : 1 ≤ I ∧ I ≤ 4) (hO : 1 ≤ O ∧ O ≤ 4) (e1 : n1 = H * I) (e2 : n2 = O * H) (g1 : n1 ≤ k1) (g2 : n2 ≤ k2) (o1 : okL a1 = true) (o2 : okL a2 = true) :
  Calls Tryz.prog 90 #[.agg #[.int .i64 H, .int .i64 I, .slice A1 n1 k1, .int .i64 O, .int .i64 H, .slice A2 n2 k2, .slice B1 H d1, .slice B2 O d2], .slice X I xc] w (Fwd w H O (hidL H I a1 b1 x) (outpL H I O a1 b1 a2 b2 x)) := by
 have HB := Blk.made w 102 #[.int .i64 H, .int .i64 I, .slice A1 n1 k1, .int .i64 O, .int .i64 H, .slice A2 n2 k2, .slice B1 H d1, .slice B2 O d2]
 have M1 := Lib.hid (fun W (q : Ints .i64 W A1 n1 a1) (q2 : Ints .i64 W X I x) => vec_Mul_ok H I A1 X n1 k1 xc a1 x W q q2 hH hI e1 g1 o1)
 have M2 := Lib.hid (fun W B d (q : Ints .i64 W A2 n2 a2) (y : List Int) (q2 : Ints .i64 W B H y) => vec_Mul_ok O H A2 B n2 k2 d a2 y W q q2 hO hH e2 g2 o2)
 have E1 := Lib.hid (mulL_length a1 H I x)
 have bw : Below w.heap.size w (w.alloc (.cells #[.int .i64 H, .int .i64 I, .slice A1 n1 k1, .int .i64 O, .int .i64 H, .slice A2 n2 k2, .slice B1 H d1, .slice B2 O d2] 102)) := (Below.refl _ _).alloc (Nat.le_refl _) _
 clear e1 e2 g1 g2 o1 o2
 obtain ⟨f0, f1, f2, f3, f4, f5, f6, f7⟩ := HB.pup
 go_enter Tryz.func90, Tryz.ntmps90
 go_wp2_with fail
 refine (M1.out _ (i1.alloc _) (ix.alloc _)).mono ?_
 rintro e w1 ⟨S1, s1, rfl, O1, hb1⟩
 rw [E1.out] at O1 ⊢
 have hw1 := Below.trans (B := w.heap.size) bw (hb1.mono bw.size)
 replace HB := HB.below hb1 HB.lt
 have hgw : w.heap.size + 1 ≤ w1.heap.size := by have := hb1.size; simpa using this
 clear f0 f1 f2 f3 f4 f5 f6 f7 hb1
 obtain ⟨f0, f1, f2, f3, f4, f5, f6, f7⟩ := HB.pup
 go_wp2_with fail
 refine (vec_Sum_ok S1 B1 H s1 d1 (mulL a1 H I x) b1 _ (Ints.of_own O1 E1.out) (j1.below hw1) (by omega)).mono ?_
 rintro e w2 ⟨S2, s2, rfl, O2, hb2⟩
 have E2 := Lib.hid (show (sumL (mulL a1 H I x) b1).length = H by rw [sumL_length, mulL_length])
 rw [E2.out] at O2 ⊢
 have hw2 := hw1.trans (hb2.mono hw1.size)
 obtain ⟨g, cp, hS, hg0, hgl⟩ := O2.form (by omega)
 obtain ⟨rfl, rfl⟩ : S2 = some ⟨g, 0, none⟩ ∧ s2 = cp := by injection hS with a _ c; exact ⟨a, c⟩
 obtain ⟨L, hL⟩ : ∃ L, L = sumL (mulL a1 H I x) b1 := ⟨_, rfl⟩
 have HLL := Lib.hid (show L.length = H by rw [hL]; exact E2.out)
 have HR := Lib.hid (show reluL L = hidL H I a1 b1 x by rw [hL]; rfl)
 rw [← hL] at O2
 clear hS f0 f1 f2 f3 f4 f5 f6 f7 O1 hL
 have O20 : w2.ownsRow w1.heap.size 3 1 (.slice (some ⟨g, 0, none⟩) H s2) H ((reluK L 0).map (.int .i64)) := by rw [reluK_zero]; exact O2
 clear O2
 go_wp2
 go_loopw [8, 27] (fun _ i wr => ∃ k : Nat, k ≤ H ∧ i = .int .i64 k ∧ wr.ownsRow w1.heap.size 3 1 (.slice (some ⟨g, 0, none⟩) H s2) H ((reluK L k).map (.int .i64)) ∧ Below w1.heap.size w1 wr) (fun _ i _ => H - (intOf i).toNat)
 case atStart => exact ⟨0, by omega, rfl, O20, hb2⟩
 case round =>
  clear O20
  obtain ⟨k, hk, rfl, ho, hb⟩ := hrel
  by_cases hlt : k < H
  ·have c1 := ho.cellAt k (by omega)
   rw [List.getElem?_map, List.getElem?_eq_getElem (by rw [reluK_length, HLL.out]; omega), Option.map_some, ← at0_getElem, reluK_at L (by rw [HLL.out]; omega)] at c1
   have z1 := ho.frozenAt k
   have F : ∀ v, v = max (at0 L k) 0 → (wr.setCell ⟨g, k, none⟩ (.int .i64 v)).ownsRow w1.heap.size 3 1 (.slice (some ⟨g, 0, none⟩) H s2) H ((reluK L (k + 1)).map (.int .i64)) := fun v hv => by
    have h := (ho.stored k (.int .i64 v)).1
    rw [← List.map_set, hv, reluK_step L k] at h
    rw [hv]; exact h
   obtain ⟨y, hy⟩ : ∃ y, y = at0 L k := ⟨_, rfl⟩
   rw [← hy] at c1 F
   have HF := Lib.hid F
   clear hy F
   by_cases hy0 : 0 ≤ y
   ·have V := Lib.hid (show y = max y 0 by omega)
    go_wp2
    go_roundw
    case rel => exact ⟨k + 1, by omega, by go_num, HF.out _ V.out, hb.setCell (p := ⟨g, k, none⟩) (ho.lt g rfl).1 _⟩
    case measure => simp [intOf]; omega
   ·have V := Lib.hid (show 0 = max y 0 by omega)
    have hy1 : y ≤ 0 := by omega
    go_wp2
    go_roundw
    case rel => exact ⟨k + 1, by omega, by go_num, HF.out _ V.out, hb.setCell (p := ⟨g, k, none⟩) (ho.lt g rfl).1 _⟩
    case measure => simp [intOf]; omega
  ·obtain rfl : H = k := by omega
   have hbs := hw1.size
   have hwr := hw1.trans (hb.mono hbs)
   have HRL := Lib.hid (show (hidL H I a1 b1 x).length = H from hidL_length _ _ _ _ _)
   rw [show reluK L H = hidL H I a1 b1 x by rw [← HR.out, ← HLL.out]; exact reluK_all L] at ho
   have OUT := Lib.hid (show outpL H I O a1 b1 a2 b2 x = sumL (mulL a2 O H (hidL H I a1 b1 x)) b2 from rfl)
   obtain ⟨hs, hhs⟩ : ∃ hs, hs = hidL H I a1 b1 x := ⟨_, rfl⟩
   rw [← hhs] at ho HRL OUT
   have HHS := Lib.hid hhs
   have HBr := HB.below hb (by omega)
   obtain ⟨f0, f1, f2, f3, f4, f5, f6, f7⟩ := HBr.pup
   have E4 := Lib.hid (mulL_length a2 O H hs)
   have E5 := Lib.hid (show (sumL (mulL a2 O H hs) b2).length = O by rw [sumL_length, mulL_length])
   clear hhs hlt
   go_wp2_with fail
   refine (M2.out _ (some ⟨g, 0, none⟩) s2 (i2.below hwr) hs (Ints.of_own ho HRL.out)).mono ?_
   rintro e w3 ⟨S3, s3, rfl, O3, hb3⟩
   rw [E4.out] at O3 ⊢
   have hw3 := hwr.trans (hb3.mono hwr.size)
   have HB3 := HBr.below hb3 HBr.lt
   clear f0 f1 f2 f3 f4 f5 f6 f7
   obtain ⟨f0, f1, f2, f3, f4, f5, f6, f7⟩ := HB3.pup
   go_wp2_with fail
   refine (vec_Sum_ok S3 B2 O s3 d2 (mulL a2 O H hs) b2 _ (Ints.of_own O3 E4.out) (j2.below hw3) (by omega)).mono ?_
   rintro e w4 ⟨S4, s4, rfl, O4, hb4⟩
   rw [E5.out] at O4 ⊢
   clear f0 f1 f2 f3 f4 f5 f6 f7
   go_wp2
   go_ret2
   refine ⟨_, _, _, _, rfl, by rw [← HHS.out]; exact own_base (own_below ho (bel_trans hb3 hb4)) hbs, ?_, hw3.trans (hb4.mono hw3.size)⟩
   rw [OUT.out]
   exact own_base O4 hw3.size
def offL (y t : List Int) : List Int := upto (fun k => subF (at0 y k) (at0 t k)) y.length
theorem offL_length (y t : List Int) : (offL y t).length = y.length := upto_length _ _
theorem pup_off (A B : Option Addr) (n c d : Nat) (xs ys : List Int) (w : World) (hx : Ints .i64 w A n xs) (hy : Ints .i64 w B n ys) (hn : n ≤ 200) :
  Calls Tryz.prog 91 #[.slice A n c, .slice B n d] w (Own1 w (offL xs ys)) := by
 obtain ⟨i0, hi0, hz0, hz1, hz2⟩ := info_parts int_info
 go_enter Tryz.func91, Tryz.ntmps91
 go_wp2
 go_loopw [5, 6, 9] (fun o _ i wr => ∃ k : Nat, k ≤ n ∧ i = .int .i64 k ∧ wr.ownsRow w.heap.size 3 1 o k ((upto (fun k => subF (at0 xs k) (at0 ys k)) k).map (.int .i64)) ∧ Below w.heap.size w wr) (fun _ _ i _ => n - (intOf i).toNat)
 case atStart => exact ⟨0, Nat.zero_le _, rfl, World.ownsRow_nil _ _ _ _, Below.refl _ _⟩
 case round =>
  obtain ⟨k, hk, rfl, hown, hb⟩ := hrel
  by_cases hlt : k < n
  ·obtain ⟨b, off, rfl, hbl, hc⟩ := hx.cells (by omega)
   obtain ⟨b', off', rfl, hbl', hc'⟩ := hy.cells (by omega)
   have g1 := (hb.cell (p := ⟨b, off + k, none⟩) hbl).trans (hc k hlt)
   have g2 := (hb.cell (p := ⟨b', off' + k, none⟩) hbl').trans (hc' k hlt)
   have z1 : (0 : Int) ≤ (k : Int) := Int.natCast_nonneg _
   have z2 : (k : Int) < (n : Int) := by omega
   have ne1 : u5.ownBlock ≠ some b := fun h => by have := (hown.lt b h).1; omega
   have ne2 : u5.ownBlock ≠ some b' := fun h => by have := (hown.lt b' h).1; omega
   have hbs := hb.size
   clear hc hc'
   go_wp2
   go_region_held3 (fun w' => w'.cell? ⟨b, off + k, none⟩ = some (.int .i64 (at0 xs k)) ∧ w'.cell? ⟨b', off' + k, none⟩ = some (.int .i64 (at0 ys k)))
    (first
     | go_keep
     | (go_split_ands
        refine ⟨?_, ?_⟩
        · (rw [hgrow.cell_far _ (by simp; omega) (Ne.symm ne1)]; assumption)
        · (rw [hgrow.cell_far _ (by simp; omega) (Ne.symm ne2)]; assumption)))
    (first
     | (go_at_call 135; refine (fix_Sub _ _ _).mono ?_; rintro e w' ⟨rfl, rfl⟩)
     | (refine step_append_lies _ (by rfl) _ _ _ (by rfl) w.heap.size 3 i0 _ 1 8 Tryz.underlying56 hi0 hz0 hz1 hz2 rfl (by omega) u5 k _ (by rfl) (by exact (hown.alloc _).drew)
         ⟨wr.heap.size, 0, none⟩ 1 1 [.int .i64 (subF (at0 xs k) (at0 ys k))] (by rfl) (by rfl) (World.news_of_block (cs := #[.int .i64 (subF (at0 xs k) (at0 ys k))]) (t := 3) (fr := (0, 0)) (heap_alloc_new wr _)) (by simp [Value.oneCell'])
         (by omega) (by unfold maxLen; omega) (by omega) (by simp; omega) (wr.heap.size + 1) (by simp) ?_; intro gg cap w1 hown1 hgrow hat hlt1))
   have hb2 : Below w.heap.size w w1 := Below.grown (hb.alloc hbs _).drew hgrow (by simp; omega) (fun x hx => (hown.lt x hx).1)
   rw [← List.map_singleton, ← List.map_append, ← upto_succ (fun k => subF (at0 xs k) (at0 ys k))] at hown1
   clear hgrow hat hlt1 ne1 ne2 g1 g2
   go_wp2
   go_roundw
   case rel => exact ⟨k + 1, by omega, by go_num, hown1, hb2⟩
   case measure => simp [intOf]; omega
  ·obtain rfl : n = k := by omega
   go_wp2
   go_ret
   exact own_one (offL_length xs ys |>.trans hx.len) (by unfold offL; rw [hx.len]; exact hown) hb
def bothE (r1 c1 : Int) (a1 : List Int) (r2 c2 : Int) (a2 b1 b2 : List Int) (ni no : Int) : Int := if pupE r1 c1 a1 r2 c2 a2 b1 b2 ≠ 0 then pupE r1 c1 a1 r2 c2 a2 b1 b2 else if ni ≠ c1 ∨ no ≠ r2 then 5 else 0
theorem bothE_ok {r1 c1 : Int} {a1 : List Int} {r2 c2 : Int} {a2 b1 b2 : List Int} {ni no : Int} (h : bothE r1 c1 a1 r2 c2 a2 b1 b2 ni no = 0) : pupE r1 c1 a1 r2 c2 a2 b1 b2 = 0 ∧ ni = c1 ∧ no = r2 := by
 unfold bothE at h
 by_cases hp : pupE r1 c1 a1 r2 c2 a2 b1 b2 ≠ 0
 ·rw [if_pos hp] at h; exact absurd h hp
 ·rw [if_neg hp] at h
  by_cases hn : ni ≠ c1 ∨ no ≠ r2
  ·rw [if_pos hn] at h; omega
  ·exact ⟨by omega, by omega, by omega⟩
theorem pup_both (r1 c1 : Int) (A1 : Option Addr) (n1 k1 : Nat) (a1 : List Int) (r2 c2 : Int) (A2 : Option Addr) (n2 k2 : Nat) (a2 : List Int) (B1 : Option Addr) (m1 d1 : Nat) (b1 : List Int) (B2 : Option Addr) (m2 d2 : Nat) (b2 : List Int) (X T : Option Addr) (ni no xc tc : Nat) (w : World) (i1 : Ints .i64 w A1 n1 a1) (i2 : Ints .i64 w A2 n2 a2) (j1 : Ints .i64 w B1 m1 b1) (j2 : Ints .i64 w B2 m2 b2) (h1 : n1 ≤ 9223372036854775807) (h2 : n2 ≤ 9223372036854775807) (h3 : m1 ≤ 9223372036854775807) (h4 : m2 ≤ 9223372036854775807) (hE0 : bothE r1 c1 a1 r2 c2 a2 b1 b2 ni no = 0) :
  Calls Tryz.prog 89 #[(.agg #[.int .i64 r1, .int .i64 c1, .slice A1 n1 k1, .int .i64 r2, .int .i64 c2, .slice A2 n2 k2, .slice B1 m1 d1, .slice B2 m2 d2]), .agg #[.slice X ni xc, .slice T no tc]] w fun e w' => e = .returned (.int .i64 (bothE r1 c1 a1 r2 c2 a2 b1 b2 ni no)) ∧ Below w.heap.size w w' := by
 obtain ⟨hP0, q1, q2⟩ := bothE_ok hE0
 have HB := (Blk.made w 102 #[.int .i64 r1, .int .i64 c1, .slice A1 n1 k1, .int .i64 r2, .int .i64 c2, .slice A2 n2 k2, .slice B1 m1 d1, .slice B2 m2 d2]).alloc (.cells #[.slice X ni xc, .slice T no tc] 73)
 have HX := Blk.made' (w.alloc (.cells #[.int .i64 r1, .int .i64 c1, .slice A1 n1 k1, .int .i64 r2, .int .i64 c2, .slice A2 n2 k2, .slice B1 m1 d1, .slice B2 m2 d2] 102)) 73 #[.slice X ni xc, .slice T no tc] (g := w.heap.size + 1) (by simp)
 have bw : Below w.heap.size w ((w.alloc (.cells #[.int .i64 r1, .int .i64 c1, .slice A1 n1 k1, .int .i64 r2, .int .i64 c2, .slice A2 n2 k2, .slice B1 m1 d1, .slice B2 m2 d2] 102)).alloc (.cells #[.slice X ni xc, .slice T no tc] 73)) := ((Below.refl _ _).alloc (Nat.le_refl _) _).alloc (by simp) _
 have HC := Lib.hid (pup_Check r1 c1 A1 n1 k1 a1 r2 c2 A2 n2 k2 a2 B1 m1 d1 b1 B2 m2 d2 b2 _ ((i1.alloc (.cells #[.int .i64 r1, .int .i64 c1, .slice A1 n1 k1, .int .i64 r2, .int .i64 c2, .slice A2 n2 k2, .slice B1 m1 d1, .slice B2 m2 d2] 102)).alloc (.cells #[.slice X ni xc, .slice T no tc] 73)) ((i2.alloc (.cells #[.int .i64 r1, .int .i64 c1, .slice A1 n1 k1, .int .i64 r2, .int .i64 c2, .slice A2 n2 k2, .slice B1 m1 d1, .slice B2 m2 d2] 102)).alloc (.cells #[.slice X ni xc, .slice T no tc] 73)) ((j1.alloc (.cells #[.int .i64 r1, .int .i64 c1, .slice A1 n1 k1, .int .i64 r2, .int .i64 c2, .slice A2 n2 k2, .slice B1 m1 d1, .slice B2 m2 d2] 102)).alloc (.cells #[.slice X ni xc, .slice T no tc] 73)) ((j2.alloc (.cells #[.int .i64 r1, .int .i64 c1, .slice A1 n1 k1, .int .i64 r2, .int .i64 c2, .slice A2 n2 k2, .slice B1 m1 d1, .slice B2 m2 d2] 102)).alloc (.cells #[.slice X ni xc, .slice T no tc] 73)) h1 h2 h3 h4 hP0)
 rw [hP0] at HC
 rw [hE0]
 obtain ⟨f0, f1, f2, f3, f4, f5, f6, f7⟩ := HB.pup
 have hh : ∀ w1 : World, Below ((w.alloc (.cells #[.int .i64 r1, .int .i64 c1, .slice A1 n1 k1, .int .i64 r2, .int .i64 c2, .slice A2 n2 k2, .slice B1 m1 d1, .slice B2 m2 d2] 102)).alloc (.cells #[.slice X ni xc, .slice T no tc] 73)).heap.size ((w.alloc (.cells #[.int .i64 r1, .int .i64 c1, .slice A1 n1 k1, .int .i64 r2, .int .i64 c2, .slice A2 n2 k2, .slice B1 m1 d1, .slice B2 m2 d2] 102)).alloc (.cells #[.slice X ni xc, .slice T no tc] 73)) w1 →
   (w1.cell? ⟨w.heap.size, 1, none⟩ = some (.int .i64 c1) ∧ w1.cell? ⟨w.heap.size, 3, none⟩ = some (.int .i64 r2)) ∧ w1.cell? ⟨w.heap.size + 1, 0, none⟩ = some (.slice X ni xc) ∧ w1.cell? ⟨w.heap.size + 1, 1, none⟩ = some (.slice T no tc) := fun w1 hb1 =>
  ⟨⟨(HB.below hb1 HB.lt).cell 1, (HB.below hb1 HB.lt).cell 3⟩, (HX.below hb1 HX.lt).cell 0, (HX.below hb1 HX.lt).cell 1⟩
 have HH := Lib.hid hh
 clear hh
 have t1 : ((ni : Int) != c1) = false := by rw [bne_eq_false_iff_eq]; exact q1
 have t2 : ((no : Int) != r2) = false := by rw [bne_eq_false_iff_eq]; exact q2
 clear q1 q2 hP0 hE0
 go_enter Tryz.func89, Tryz.ntmps89
 go_wp2_with fail
 refine HC.out.mono ?_
 rintro e w1 ⟨rfl, hb1⟩
 obtain ⟨⟨u1, u2⟩, u3, u4⟩ := HH.out w1 hb1
 clear f0 f1 f2 f3 f4 f5 f6 f7
 go_wp2
 go_ret
 exact ⟨rfl, bw.trans (hb1.mono bw.size)⟩
def maskK (h g : List Int) (k : Nat) : List Int := upto (fun j => if j < k ∧ at0 h j = 0 then 0 else at0 g j) g.length
def maskL (h g : List Int) : List Int := upto (fun j => if at0 h j = 0 then 0 else at0 g j) g.length
theorem maskK_length (h g : List Int) (k : Nat) : (maskK h g k).length = g.length := upto_length _ _
theorem maskL_length (h g : List Int) : (maskL h g).length = g.length := upto_length _ _
theorem maskK_zero (h g : List Int) : maskK h g 0 = g := by
 apply list_ext_at0 (maskK_length _ _ _)
 intro j hj
 rw [maskK_length] at hj
 unfold maskK
 rw [at0_upto _ hj, if_neg (by omega)]
theorem maskK_all (h g : List Int) : maskK h g g.length = maskL h g := by
 apply list_ext_at0 (by rw [maskK_length, maskL_length])
 intro j hj
 rw [maskK_length] at hj
 unfold maskK maskL
 rw [at0_upto _ hj, at0_upto _ hj]
 by_cases h0 : at0 h j = 0
 ·rw [if_pos ⟨hj, h0⟩, if_pos h0]
 ·rw [if_neg (by simp [h0]), if_neg h0]
theorem maskK_set (h g : List Int) (k : Nat) (h0 : at0 h k = 0) : (maskK h g k).set k 0 = maskK h g (k + 1) := by
 apply List.ext_getElem (by rw [List.length_set, maskK_length, maskK_length])
 intro j h1 h2
 rw [List.length_set, maskK_length] at h1
 rw [List.getElem_set]
 unfold maskK
 simp only [upto, List.getElem_map, List.getElem_range]
 by_cases hj : k = j
 ·subst hj
  rw [if_pos rfl, if_pos ⟨by omega, h0⟩]
 ·rw [if_neg hj]
  by_cases hk : j < k ∧ at0 h j = 0
  ·rw [if_pos hk, if_pos ⟨by omega, hk.2⟩]
  ·rw [if_neg hk, if_neg (by omega)]
theorem maskK_skip (h g : List Int) (k : Nat) (h0 : ¬ at0 h k = 0) : maskK h g k = maskK h g (k + 1) := by
 apply list_ext_at0 (by rw [maskK_length, maskK_length])
 intro j hj
 rw [maskK_length] at hj
 unfold maskK
 rw [at0_upto _ hj, at0_upto _ hj]
 by_cases hk : j < k ∧ at0 h j = 0
 ·rw [if_pos hk, if_pos ⟨by omega, hk.2⟩]
 ·rw [if_neg hk, if_neg (by
   rintro ⟨a, b⟩
   rcases Nat.lt_or_ge j k with h1 | h1
   ·exact hk ⟨h1, b⟩
   ·obtain rfl : j = k := by omega
    exact h0 b)]
def gB1 (H I O : Nat) (a1 b1 a2 b2 x t : List Int) : List Int := maskL (hidL H I a1 b1 x) (backL a2 O H (offL (outpL H I O a1 b1 a2 b2 x) t))
def gradP (H I O : Nat) (a1 b1 a2 b2 x t : List Int) : Pup :=
 ⟨H, I, outerL (gB1 H I O a1 b1 a2 b2 x t) x, O, H, outerL (offL (outpL H I O a1 b1 a2 b2 x) t) (hidL H I a1 b1 x), gB1 H I O a1 b1 a2 b2 x t, offL (outpL H I O a1 b1 a2 b2 x) t⟩
theorem Blk.two' {w : World} {g : Nat} {t : TypeId} {a b : Value} (h : Blk w g t #[a, b]) : (w.cell? ⟨g, 0, none⟩ = some a ∧ w.cell? ⟨g, 1, none⟩ = some b) ∧ w.frozen? ⟨g, 0, none⟩ = false ∧ w.frozen? ⟨g, 1, none⟩ = false :=
 ⟨⟨h.cell 0, h.cell 1⟩, h.frozen 0, h.frozen 1⟩
theorem but_refl (g : Nat) (w : World) : But g w w := ⟨rfl, rfl, rfl, Nat.le_refl _, fun _ _ _ => rfl⟩
theorem but_put {g : Nat} {w w' : World} (h : But g w w') (i : Nat) (u : Value) : But g w (w'.setCell ⟨g, i, none⟩ u) := by
 have b := (Below.refl 0 w').setCell (p := ⟨g, i, none⟩) (Nat.zero_le _) u
 exact ⟨b.os.trans h.os, b.tape.trans h.tape, b.output.trans h.output, Nat.le_trans h.size b.size, fun k hk hne => (heap_setCell_other w' ⟨g, i, none⟩ k u hne).trans (h.block k hk hne)⟩
theorem pup_Grad_ok (H I O : Nat) (A1 : Option Addr) (n1 k1 : Nat) (a1 : List Int) (A2 : Option Addr) (n2 k2 : Nat) (a2 : List Int) (B1 : Option Addr) (d1 : Nat) (b1 : List Int) (B2 : Option Addr) (d2 : Nat) (b2 : List Int) (X : Option Addr) (xc : Nat) (x : List Int) (T : Option Addr) (tc : Nat) (t : List Int) (w : World)
  (i1 : Ints .i64 w A1 n1 a1) (i2 : Ints .i64 w A2 n2 a2) (j1 : Ints .i64 w B1 H b1) (j2 : Ints .i64 w B2 O b2) (ix : Ints .i64 w X I x) (it : Ints .i64 w T O t) (hP : pupE H I a1 O H a2 b1 b2 = 0) (g1 : n1 ≤ k1) (g2 : n2 ≤ k2) :
  Calls Tryz.prog 172 #[.agg #[.int .i64 H, .int .i64 I, .slice A1 n1 k1, .int .i64 O, .int .i64 H, .slice A2 n2 k2, .slice B1 H d1, .slice B2 O d2], .agg #[.slice X I xc, .slice T O tc]] w (PupOwn w (gradP H I O a1 b1 a2 b2 x t) 0) := by
 obtain ⟨p1, p2, _, _, _, _, _⟩ := pupE_ok hP
 obtain ⟨q1, q2, q3, q4⟩ := matE_ok p1
 obtain ⟨r1, _, r3, r4⟩ := matE_ok p2
 have hH : 1 ≤ H ∧ H ≤ 4 := by omega
 have hI : 1 ≤ I ∧ I ≤ 4 := by omega
 have hO : 1 ≤ O ∧ O ≤ 4 := by omega
 have e1 : n1 = H * I := by have := i1.len; have h2 : ((H * I : Nat) : Int) = (H : Int) * (I : Int) := Int.natCast_mul _ _; omega
 have e2 : n2 = O * H := by have := i2.len; have h2 : ((O * H : Nat) : Int) = (O : Int) * (H : Int) := Int.natCast_mul _ _; omega
 have n16 : n1 ≤ 16 := by rw [e1]; exact Nat.mul_le_mul hH.2 hI.2
 have n26 : n2 ≤ 16 := by rw [e2]; exact Nat.mul_le_mul hO.2 hH.2
 have hb0 : bothE H I a1 O H a2 b1 b2 I O = 0 := by unfold bothE; rw [if_neg (by simp [hP]), if_neg (by simp)]
 obtain ⟨W0, hW0⟩ : ∃ W0, W0 = ((w.alloc (.cells #[.int .i64 H, .int .i64 I, .slice A1 n1 k1, .int .i64 O, .int .i64 H, .slice A2 n2 k2, .slice B1 H d1, .slice B2 O d2] 102)).alloc (.cells #[.slice X I xc, .slice T O tc] 73)).alloc (.cells #[.int .i64 0, .int .i64 0, .slice none 0 0, .int .i64 0, .int .i64 0, .slice none 0 0, .slice none 0 0, .slice none 0 0] 102) := ⟨_, rfl⟩
 have HB : Blk W0 w.heap.size 102 #[.int .i64 H, .int .i64 I, .slice A1 n1 k1, .int .i64 O, .int .i64 H, .slice A2 n2 k2, .slice B1 H d1, .slice B2 O d2] := by rw [hW0]; exact ((Blk.made _ _ _).alloc _).alloc _
 have HX : Blk W0 (w.heap.size + 1) 73 #[.slice X I xc, .slice T O tc] := by rw [hW0]; exact (Blk.made' _ _ _ (by simp)).alloc _
 have HR : Blk W0 (w.heap.size + 1 + 1) 102 #[.int .i64 0, .int .i64 0, .slice none 0 0, .int .i64 0, .int .i64 0, .slice none 0 0, .slice none 0 0, .slice none 0 0] := by rw [hW0]; exact Blk.made' _ _ _ (by simp)
 have bw : Below w.heap.size w W0 := by rw [hW0]; exact (((Below.refl _ _).alloc (Nat.le_refl _) _).alloc (by simp) _).alloc (by simp; omega) _
 have HC := Lib.hid (fun W (q1 : Ints .i64 W A1 n1 a1) (q2 : Ints .i64 W A2 n2 a2) (q3 : Ints .i64 W B1 H b1) (q4 : Ints .i64 W B2 O b2) => pup_both H I A1 n1 k1 a1 O H A2 n2 k2 a2 B1 H d1 b1 B2 O d2 b2 X T I O xc tc W q1 q2 q3 q4 (by omega) (by omega) (by omega) (by omega) hb0)
 rw [hb0] at HC
 have HF := Lib.hid (fun W (q1 : Ints .i64 W A1 n1 a1) (q2 : Ints .i64 W A2 n2 a2) (q3 : Ints .i64 W B1 H b1) (y4 : Ints .i64 W B2 O b2) (q5 : Ints .i64 W X I x) => pup_forward H I O A1 n1 k1 a1 A2 n2 k2 a2 B1 d1 b1 B2 d2 b2 X xc x W q1 q2 q3 y4 q5 hH hI hO e1 e2 g1 g2 q4 r4)
 have HK := Lib.hid (fun W (q : Ints .i64 W A2 n2 a2) D dc ds (q2 : Ints .i64 W D O ds) => vec_Back_ok O H A2 D n2 k2 dc a2 ds W q q2 hO hH e2 r4)
 have i1' := i1.below bw
 have i2' := i2.below bw
 have j1' := j1.below bw
 have j2' := j2.below bw
 have ix' := ix.below bw
 have it' := it.below bw
 obtain ⟨f0, f1, f2, f3, f4, f5, f6, f7⟩ := HB.pup
 obtain ⟨⟨x0, x1⟩, _⟩ := HX.two'
 clear hb0 p1 p2 q1 q2 q3 q4 r1 r3 r4 e1 e2 hP
 go_enter Tryz.func172, Tryz.ntmps172
 go_wp2_with fail
 rw [← hW0]
 have HW0 := Lib.hid hW0
 clear hW0
 refine (HC.out _ i1' i2' j1' j2').mono ?_
 rintro e w1 ⟨rfl, hb1⟩
 have hs1 := Lib.hid (show w.heap.size + 3 ≤ w1.heap.size by have := hb1.size; have := HR.lt; omega)
 replace HB := HB.below hb1 HB.lt
 replace HX := HX.below hb1 HX.lt
 replace HR := HR.below hb1 HR.lt
 replace bw := bw.trans (hb1.mono bw.size)
 clear f0 f1 f2 f3 f4 f5 f6 f7 x0 x1 i1' i2' j1' j2' ix' it'
 obtain ⟨f0, f1, f2, f3, f4, f5, f6, f7⟩ := HB.pup
 obtain ⟨⟨x0, x1⟩, _⟩ := HX.two'
 go_wp2_with fail
 refine (HF.out _ (i1.below bw) (i2.below bw) (j1.below bw) (j2.below bw) (ix.below bw)).mono ?_
 rintro e w2 ⟨S, s, Y, yc, rfl, OS, OY, hb2⟩
 have HHL := Lib.hid (hidL_length H I a1 b1 x)
 have HYL := Lib.hid (outpL_length H I O a1 b1 a2 b2 x)
 have HG := Lib.hid (show gradP H I O a1 b1 a2 b2 x t = ⟨H, I, outerL (gB1 H I O a1 b1 a2 b2 x t) x, O, H, outerL (offL (outpL H I O a1 b1 a2 b2 x) t) (hidL H I a1 b1 x), gB1 H I O a1 b1 a2 b2 x t, offL (outpL H I O a1 b1 a2 b2 x) t⟩ from rfl)
 have HB1 := Lib.hid (show gB1 H I O a1 b1 a2 b2 x t = maskL (hidL H I a1 b1 x) (backL a2 O H (offL (outpL H I O a1 b1 a2 b2 x) t)) from rfl)
 obtain ⟨hs, hhs⟩ : ∃ hs, hs = hidL H I a1 b1 x := ⟨_, rfl⟩
 obtain ⟨ys, hys⟩ : ∃ ys, ys = outpL H I O a1 b1 a2 b2 x := ⟨_, rfl⟩
 rw [← hhs] at OS HHL HG HB1
 rw [← hys] at OY HYL HG HB1
 have bw2 := bw.trans (hb2.mono bw.size)
 have HXb := HX.below hb2 HX.lt
 have HBb := HB.below hb2 HB.lt
 have HRb := HR.below hb2 HR.lt
 clear f0 f1 f2 f3 f4 f5 f6 f7 x0 x1 HB HX HR HF HC hhs hys
 obtain ⟨f0, f1, f2, f3, f4, f5, f6, f7⟩ := HBb.pup
 obtain ⟨⟨x0, x1⟩, _⟩ := HXb.two'
 go_wp2_with fail
 refine (pup_off Y T O yc tc ys t _ (Ints.of_own OY HYL.out) (it.below bw2) (by omega)).mono ?_
 rintro e w3 ⟨D, dc, rfl, OD, hb3⟩
 have HDL := Lib.hid (show (offL ys t).length = O by rw [offL_length]; exact HYL.out)
 rw [HDL.out] at OD ⊢
 obtain ⟨ds, hds⟩ : ∃ ds, ds = offL ys t := ⟨_, rfl⟩
 rw [← hds] at OD HDL HG HB1
 have bw3 := bw2.trans (hb3.mono bw2.size)
 have HX3 := HXb.below hb3 HXb.lt
 have HB3 := HBb.below hb3 HBb.lt
 have HR3 := HRb.below hb3 HRb.lt
 have OS3 := own_below OS hb3
 have OD3 := OD
 have sz1 : w.heap.size + 3 ≤ w1.heap.size := by have := HRb.lt; have := hs1.out; omega
 have sz2 := hb2.size
 have sz3 := hb3.size
 clear f0 f1 f2 f3 f4 f5 f6 f7 x0 x1 HBb HXb HRb hds OY OS OD
 obtain ⟨f0, f1, f2, f3, f4, f5, f6, f7⟩ := HB3.pup
 obtain ⟨⟨x0, x1⟩, _⟩ := HX3.two'
 go_wp2_with fail
 refine (HK.out _ (i2.below bw3) D dc ds (Ints.of_own OD3 HDL.out)).mono ?_
 rintro e w4 ⟨G, gc, rfl, OG, hb4⟩
 have HGL := Lib.hid (backL_length a2 O H ds)
 rw [HGL.out] at OG ⊢
 obtain ⟨gs, hgs⟩ : ∃ gs, gs = backL a2 O H ds := ⟨_, rfl⟩
 rw [← hgs] at OG HGL HB1
 have bw4 := bw3.trans (hb4.mono bw3.size)
 have HX4 := HX3.below hb4 HX3.lt
 have HB4 := HB3.below hb4 HB3.lt
 have HR4 := HR3.below hb4 HR3.lt
 have OS4 := own_below OS3 hb4
 have OD4 := own_below OD3 hb4
 have lt1 := HX3.lt
 have lt2 := HB3.lt
 have lt3 := HR3.lt
 obtain ⟨gg, cp, hS, hg0, hgl⟩ := OG.form (by omega)
 obtain ⟨rfl, rfl⟩ : G = some ⟨gg, 0, none⟩ ∧ gc = cp := by injection hS with a _ c; exact ⟨a, c⟩
 have OG0 : w4.ownsRow w3.heap.size 3 1 (.slice (some ⟨gg, 0, none⟩) H gc) H ((maskK hs gs 0).map (.int .i64)) := by rw [maskK_zero]; exact OG
 have IS3 := Ints.of_own OS3 HHL.out
 clear f0 f1 f2 f3 f4 f5 f6 f7 x0 x1 HK hgs OG hS HB3 OS4 OD4 HX4 HB4 HR4 bw4
 go_wp2
 go_loopw [12, 41] (fun _ j wr => ∃ k : Nat, k ≤ H ∧ j = .int .i64 k ∧ wr.ownsRow w3.heap.size 3 1 (.slice (some ⟨gg, 0, none⟩) H gc) H ((maskK hs gs k).map (.int .i64)) ∧ Below w3.heap.size w3 wr) (fun _ j _ => H - (intOf j).toNat)
 case atStart => exact ⟨0, by omega, rfl, OG0, hb4⟩
 case round =>
  clear OG0
  obtain ⟨k, hk, rfl, ho, hb⟩ := hrel
  by_cases hlt : k < H
  ·obtain ⟨b, off, hSe, hbl, hcl⟩ := (IS3.below hb).cells (by omega)
   have c1 := hcl k hlt
   have z1 := ho.frozenAt k
   have c2 := ho.cellAt k (by omega)
   rw [List.getElem?_map, List.getElem?_eq_getElem (by rw [maskK_length, HGL.out]; omega), Option.map_some] at c2
   subst hSe
   by_cases h0 : at0 hs k = 0
   ·have M := Lib.hid (maskK_set hs gs k h0)
    rw [h0] at c1
    have HO := Lib.hid (show (wr.setCell ⟨gg, k, none⟩ (.int .i64 0)).ownsRow w3.heap.size 3 1 (.slice (some ⟨gg, 0, none⟩) H gc) H ((maskK hs gs (k + 1)).map (.int .i64)) by
     have h := (ho.stored k (.int .i64 0)).1
     rw [← List.map_set, M.out] at h; exact h)
    have hgl' := (ho.lt gg rfl).1
    clear h0 hcl ho
    go_wp2
    go_roundw
    case rel => exact ⟨k + 1, by omega, by go_num, HO.out, hb.setCell (p := ⟨gg, k, none⟩) hgl' _⟩
    case measure => simp [intOf]; omega
   ·have M := Lib.hid (maskK_skip hs gs k h0)
    obtain ⟨y, hy⟩ : ∃ y, y = at0 hs k := ⟨_, rfl⟩
    rw [← hy] at c1 h0
    have t0 : (y == 0) = false := by rw [beq_eq_false_iff_ne]; exact h0
    clear hcl hy h0
    go_wp2
    go_roundw
    case rel => exact ⟨k + 1, by omega, by go_num, by rw [← M.out]; exact ho, hb⟩
    case measure => simp [intOf]; omega
  ·obtain rfl : H = k := by omega
   clear hlt
   have bwr := bw3.trans (hb.mono bw3.size)
   have HXr := HX3.below hb lt1
   have HRr := HR3.below hb lt3
   have IS := IS3.below hb
   have ID := (Ints.of_own OD3 HDL.out).below hb
   have OSr := own_below OS3 hb
   have ODr := own_below OD3 hb
   rw [show maskK hs gs H = maskL hs gs by rw [← HGL.out]; exact maskK_all hs gs] at ho
   have HML := Lib.hid (show (maskL hs gs).length = H by rw [maskL_length]; exact HGL.out)
   obtain ⟨ms, hms⟩ : ∃ ms, ms = maskL hs gs := ⟨_, rfl⟩
   rw [← hms] at ho HML HB1
   have x0 : ∀ o, (wr.alloc o).cell? ⟨w.heap.size + 1, 0, none⟩ = some (.slice X I xc) := fun o => (HXr.alloc o).cell 0
   have hbs := hb.size
   have IM := Ints.of_own ho HML.out
   have ixr := ix.below bwr
   obtain ⟨z, hz⟩ : ∃ z, z = wr.heap.size := ⟨_, rfl⟩
   have HZ := Lib.hid hz
   clear hms OS3 OD3 hz
   go_wp2_with fail
   refine (vec_Outer_ok (some ⟨gg, 0, none⟩) X H gc I xc ms x _ (by exact IM.alloc _) (by exact ixr.alloc _) hH hI).mono ?_
   rintro e w5 ⟨P1, c1, rfl, OP1, hb5⟩
   have HZ5 : Blk w5 z 102 #[.int .i64 0, .int .i64 0, .slice none 0 0, .int .i64 0, .int .i64 0, .slice none 0 0, .slice none 0 0, .slice none 0 0] := by rw [HZ.out]; exact (Blk.made wr _ _).below hb5 (by simp)
   have B5 : Below z wr w5 := by rw [HZ.out]; exact ((Below.refl wr.heap.size wr).alloc (Nat.le_refl _) _).trans (hb5.mono (by simp))
   have OP1' : w5.ownsRow (z + 1) 3 1 (.slice P1 (outerL ms x).length c1) (outerL ms x).length ((outerL ms x).map (.int .i64)) := by rw [HZ.out]; simpa using OP1
   obtain ⟨c0, c1', c2, c3, c4, c5, c6, c7⟩ := HZ5.pup
   obtain ⟨z0, z1, z2, z3, z4, z5, z6, z7⟩ := HZ5.pupz
   clear x0 OP1 hb5
   rw [← HZ.out]
   go_wp2_with fail
   obtain ⟨u, hu⟩ : ∃ u, u = ((w5.setCell ⟨z, 0, none⟩ (.int .i64 H)).setCell ⟨z, 1, none⟩ (.int .i64 I)).setCell ⟨z, 2, none⟩ (.slice P1 (outerL ms x).length c1) := ⟨_, rfl⟩
   rw [← hu]
   have HZu : Blk u z 102 #[.int .i64 H, .int .i64 I, .slice P1 (outerL ms x).length c1, .int .i64 0, .int .i64 0, .slice none 0 0, .slice none 0 0, .slice none 0 0] := by rw [hu]; exact ((HZ5.put 0 _).put 1 _).put 2 _
   have Bu : Below z wr u := by rw [hu]; exact ((B5.setCell (p := ⟨z, 0, none⟩) (Nat.le_refl _) _).setCell (p := ⟨z, 1, none⟩) (Nat.le_refl _) _).setCell (p := ⟨z, 2, none⟩) (Nat.le_refl _) _
   have OP1u : u.ownsRow (z + 1) 3 1 (.slice P1 (outerL ms x).length c1) (outerL ms x).length ((outerL ms x).map (.int .i64)) := by
    rw [hu]
    exact own_far (own_far (own_far OP1' (p := ⟨z, 0, none⟩) (Nat.lt_succ_self _) _) (p := ⟨z, 1, none⟩) (Nat.lt_succ_self _) _) (p := ⟨z, 2, none⟩) (Nat.lt_succ_self _) _
   have BU : Below wr.heap.size wr u := by rw [← HZ.out]; exact Bu
   clear hu c0 c1' c2 c3 c4 c5 c6 c7 z0 z1 z2 z3 z4 z5 z6 z7 HZ5 B5 OP1' Bu
   refine (vec_Outer_ok D S O dc H s ds hs u (ID.below BU) (IS.below BU) hO hH).mono ?_
   rintro e w6 ⟨P2, c2', rfl, OP2, hb6⟩
   have HZ6 := HZu.below hb6 HZu.lt
   have B6 : Below wr.heap.size wr w6 := BU.trans (hb6.mono BU.size)
   have OP16 := own_below OP1u hb6
   have zu := HZu.lt
   obtain ⟨c0, c1', c2, c3, c4, c5, c6, c7⟩ := HZ6.pup
   obtain ⟨z0, z1, z2, z3, z4, z5, z6, z7⟩ := HZ6.pupz
   clear HZu OP1u hb6
   go_upto_region 17 with fail
   obtain ⟨v, hv⟩ : ∃ v, v = ((((w6.setCell ⟨z, 3, none⟩ (.int .i64 O)).setCell ⟨z, 4, none⟩ (.int .i64 H)).setCell ⟨z, 5, none⟩ (.slice P2 (outerL ds hs).length c2')).setCell ⟨z, 6, none⟩ (.slice (some ⟨gg, 0, none⟩) H gc)).setCell ⟨z, 7, none⟩ (.slice D O dc) := ⟨_, rfl⟩
   rw [← hv]
   have HZv : Blk v z 102 #[.int .i64 H, .int .i64 I, .slice P1 (outerL ms x).length c1, .int .i64 O, .int .i64 H, .slice P2 (outerL ds hs).length c2', .slice (some ⟨gg, 0, none⟩) H gc, .slice D O dc] := by rw [hv]; exact ((((HZ6.put 3 _).put 4 _).put 5 _).put 6 _).put 7 _
   have But5 : But z w6 v := by rw [hv]; exact but_put (but_put (but_put (but_put (but_put (but_refl _ _) 3 _) 4 _) 5 _) 6 _) 7 _
   have Bv : Below wr.heap.size wr v := B6.trans (But5.below (by rw [HZ.out]; exact Nat.le_refl _) B6.size)
   have HRv := HRr.below Bv HRr.lt
   have OP1v := own_but OP16 But5 (Nat.lt_succ_self _)
   have OP2v := own_but OP2 But5 zu
   have OMv := own_below ho Bv
   have ODv := own_below ODr Bv
   clear hv c0 c1' c2 c3 c4 c5 c6 c7 z0 z1 z2 z3 z4 z5 z6 z7 HZ6 But5 OP16 OP2
   obtain ⟨c0, c1', c2, c3, c4, c5, c6, c7⟩ := HZv.pup
   obtain ⟨y0, y1, y2, y3, y4, y5, y6, y7⟩ := HRv.pup
   obtain ⟨z0, z1, z2, z3, z4, z5, z6, z7⟩ := HRv.pupz
   have sv := Bv.size
   have LM := Lib.hid HML.out
   obtain ⟨ρ, hρ⟩ : ∃ ρ, ρ = w.heap.size + 1 + 1 := ⟨_, rfl⟩
   have HRHO := Lib.hid hρ
   have bv0 : Below w.heap.size w v := bwr.trans (Bv.mono bwr.size)
   go_wp2
   refine bodyPost_ret (v := .tuple #[.agg #[.int .i64 H, .int .i64 I, .slice P1 (outerL ms x).length c1, .int .i64 O, .int .i64 H, .slice P2 (outerL ds hs).length c2', .slice (some ⟨gg, 0, none⟩) H gc, .slice D O dc], .int .i64 0]) (by simp [results, Tryz.results172, go_sem, y0, y1, y2, y3, y4, y5, y6, y7]) rfl ?_
   have B8 : But ρ v ((((((((v.setCell ⟨ρ, 0, none⟩ (.int .i64 H)).setCell ⟨ρ, 1, none⟩ (.int .i64 I)).setCell ⟨ρ, 2, none⟩ (.slice P1 (outerL ms x).length c1)).setCell ⟨ρ, 3, none⟩ (.int .i64 O)).setCell ⟨ρ, 4, none⟩ (.int .i64 H)).setCell ⟨ρ, 5, none⟩ (.slice P2 (outerL ds hs).length c2')).setCell ⟨ρ, 6, none⟩ (.slice (some ⟨gg, 0, none⟩) H gc)).setCell ⟨ρ, 7, none⟩ (.slice D O dc)) :=
    but_put (but_put (but_put (but_put (but_put (but_put (but_put (but_put (but_refl _ _) 0 _) 1 _) 2 _) 3 _) 4 _) 5 _) 6 _) 7 _
   have hzw : w.heap.size + 3 ≤ z := by rw [HZ.out]; omega
   have hw3 : w.heap.size + 3 ≤ w3.heap.size := by omega
   have hw2' : w.heap.size + 3 ≤ w2.heap.size := by omega
   have hu3 : w.heap.size + 3 ≤ u.heap.size := by have := BU.size; omega
   have R1 := own_base (own_but OP1v B8 (by omega)) (show w.heap.size ≤ z + 1 by omega)
   have R2 := own_base (own_but OP2v B8 (by omega)) (show w.heap.size ≤ u.heap.size by omega)
   have R3 := own_base (own_but OMv B8 (by omega)) (show w.heap.size ≤ w3.heap.size by omega)
   have R4 := own_base (own_but ODv B8 (by omega)) (show w.heap.size ≤ w2.heap.size by omega)
   have B9 : Below w.heap.size w _ := bv0.trans (B8.below (by omega) bv0.size)
   rw [hρ] at R1 R2 R3 R4 B9
   rw [HG.out, HB1.out]
   exact ⟨_, _, _, _, _, _, _, _, by dsimp only; rw [HML.out, HDL.out], R1, R2, by dsimp only; rw [HML.out]; exact R3, by dsimp only; rw [HDL.out]; exact R4, B9⟩
def lossP (H I O : Nat) (a1 b1 a2 b2 x t : List Int) : Int := dotN (offL (outpL H I O a1 b1 a2 b2 x) t) (offL (outpL H I O a1 b1 a2 b2 x) t) O
theorem pup_dims {r1 c1 : Int} {a1 : List Int} {r2 c2 : Int} {a2 b1 b2 : List Int} (hP : pupE r1 c1 a1 r2 c2 a2 b1 b2 = 0) :
  ∃ H I O : Nat, r1 = H ∧ c1 = I ∧ r2 = O ∧ c2 = H ∧ (1 ≤ H ∧ H ≤ 4) ∧ (1 ≤ I ∧ I ≤ 4) ∧ (1 ≤ O ∧ O ≤ 4) ∧ a1.length = H * I ∧ a2.length = O * H ∧ b1.length = H ∧ b2.length = O ∧ okL a1 = true ∧ okL a2 = true := by
 obtain ⟨p1, p2, p3, p4, p5, _, _⟩ := pupE_ok hP
 obtain ⟨q1, q2, q3, q4⟩ := matE_ok p1
 obtain ⟨r1', _, r3, r4⟩ := matE_ok p2
 obtain ⟨H, rfl⟩ : ∃ H : Nat, r1 = (H : Int) := ⟨r1.toNat, by omega⟩
 obtain ⟨I, rfl⟩ : ∃ I : Nat, c1 = (I : Int) := ⟨c1.toNat, by omega⟩
 obtain ⟨O, rfl⟩ : ∃ O : Nat, r2 = (O : Int) := ⟨r2.toNat, by omega⟩
 have e1 : ((H * I : Nat) : Int) = (H : Int) * (I : Int) := Int.natCast_mul _ _
 have e2 : ((O * H : Nat) : Int) = (O : Int) * (H : Int) := Int.natCast_mul _ _
 subst p3
 exact ⟨H, I, O, rfl, rfl, rfl, rfl, by omega, by omega, by omega, by omega, by omega, by omega, by omega, q4, r4⟩
theorem pup_Loss_ok (H I O : Nat) (A1 : Option Addr) (n1 k1 : Nat) (a1 : List Int) (A2 : Option Addr) (n2 k2 : Nat) (a2 : List Int) (B1 : Option Addr) (d1 : Nat) (b1 : List Int) (B2 : Option Addr) (d2 : Nat) (b2 : List Int) (X : Option Addr) (xc : Nat) (x : List Int) (T : Option Addr) (tc : Nat) (t : List Int) (w : World)
  (i1 : Ints .i64 w A1 n1 a1) (i2 : Ints .i64 w A2 n2 a2) (j1 : Ints .i64 w B1 H b1) (j2 : Ints .i64 w B2 O b2) (ix : Ints .i64 w X I x) (it : Ints .i64 w T O t) (hP : pupE H I a1 O H a2 b1 b2 = 0) (g1 : n1 ≤ k1) (g2 : n2 ≤ k2) :
  Calls Tryz.prog 55 #[.agg #[.int .i64 H, .int .i64 I, .slice A1 n1 k1, .int .i64 O, .int .i64 H, .slice A2 n2 k2, .slice B1 H d1, .slice B2 O d2], .agg #[.slice X I xc, .slice T O tc]] w
   fun e w' => e = .returned (.tuple #[.int .i64 (lossP H I O a1 b1 a2 b2 x t), .int .i64 0]) ∧ Below w.heap.size w w' := by
 obtain ⟨H', I', O', h1, h2, h3, _, hH, hI, hO, e1, e2, _, _, o1, o2⟩ := pup_dims hP
 obtain rfl : H = H' := by omega
 obtain rfl : I = I' := by omega
 obtain rfl : O = O' := by omega
 rw [i1.len] at e1
 rw [i2.len] at e2
 have n16 : n1 ≤ 16 := by rw [e1]; exact Nat.mul_le_mul hH.2 hI.2
 have n26 : n2 ≤ 16 := by rw [e2]; exact Nat.mul_le_mul hO.2 hH.2
 have hb0 : bothE H I a1 O H a2 b1 b2 I O = 0 := by unfold bothE; rw [if_neg (by simp [hP]), if_neg (by simp)]
 obtain ⟨W0, hW0⟩ : ∃ W0, W0 = (w.alloc (.cells #[.int .i64 H, .int .i64 I, .slice A1 n1 k1, .int .i64 O, .int .i64 H, .slice A2 n2 k2, .slice B1 H d1, .slice B2 O d2] 102)).alloc (.cells #[.slice X I xc, .slice T O tc] 73) := ⟨_, rfl⟩
 have HB : Blk W0 w.heap.size 102 #[.int .i64 H, .int .i64 I, .slice A1 n1 k1, .int .i64 O, .int .i64 H, .slice A2 n2 k2, .slice B1 H d1, .slice B2 O d2] := by rw [hW0]; exact (Blk.made _ _ _).alloc _
 have HX : Blk W0 (w.heap.size + 1) 73 #[.slice X I xc, .slice T O tc] := by rw [hW0]; exact Blk.made' _ _ _ (by simp)
 have bw : Below w.heap.size w W0 := by rw [hW0]; exact ((Below.refl _ _).alloc (Nat.le_refl _) _).alloc (by simp) _
 have HC := Lib.hid (fun W (q1 : Ints .i64 W A1 n1 a1) (q2 : Ints .i64 W A2 n2 a2) (q3 : Ints .i64 W B1 H b1) (q4 : Ints .i64 W B2 O b2) => pup_both H I A1 n1 k1 a1 O H A2 n2 k2 a2 B1 H d1 b1 B2 O d2 b2 X T I O xc tc W q1 q2 q3 q4 (by omega) (by omega) (by omega) (by omega) hb0)
 rw [hb0] at HC
 have HF := Lib.hid (fun W (q1 : Ints .i64 W A1 n1 a1) (q2 : Ints .i64 W A2 n2 a2) (q3 : Ints .i64 W B1 H b1) (y4 : Ints .i64 W B2 O b2) (q5 : Ints .i64 W X I x) => pup_forward H I O A1 n1 k1 a1 A2 n2 k2 a2 B1 d1 b1 B2 d2 b2 X xc x W q1 q2 q3 y4 q5 hH hI hO e1 e2 g1 g2 o1 o2)
 have HG := Lib.hid (show lossP H I O a1 b1 a2 b2 x t = dotN (offL (outpL H I O a1 b1 a2 b2 x) t) (offL (outpL H I O a1 b1 a2 b2 x) t) O from rfl)
 have HYL := Lib.hid (outpL_length H I O a1 b1 a2 b2 x)
 obtain ⟨ys, hys⟩ : ∃ ys, ys = outpL H I O a1 b1 a2 b2 x := ⟨_, rfl⟩
 rw [← hys] at HYL HG
 have HYS := Lib.hid hys
 have i1' := i1.below bw
 have i2' := i2.below bw
 have j1' := j1.below bw
 have j2' := j2.below bw
 obtain ⟨f0, f1, f2, f3, f4, f5, f6, f7⟩ := HB.pup
 obtain ⟨⟨x0, x1⟩, _⟩ := HX.two'
 clear hb0 e1 e2 hP hys h1 h2 h3
 go_enter Tryz.func55, Tryz.ntmps55
 go_wp2_with fail
 rw [← hW0]
 clear hW0
 refine (HC.out _ i1' i2' j1' j2').mono ?_
 rintro e w1 ⟨rfl, hb1⟩
 replace HB := HB.below hb1 HB.lt
 replace HX := HX.below hb1 HX.lt
 replace bw := bw.trans (hb1.mono bw.size)
 clear f0 f1 f2 f3 f4 f5 f6 f7 x0 x1 i1' i2' j1' j2'
 obtain ⟨f0, f1, f2, f3, f4, f5, f6, f7⟩ := HB.pup
 obtain ⟨⟨x0, x1⟩, _⟩ := HX.two'
 go_wp2_with fail
 refine (HF.out _ (i1.below bw) (i2.below bw) (j1.below bw) (j2.below bw) (ix.below bw)).mono ?_
 rintro e w2 ⟨S, s, Y, yc, rfl, _, OY, hb2⟩
 rw [← HYS.out] at OY
 have bw2 := bw.trans (hb2.mono bw.size)
 have HXb := HX.below hb2 HX.lt
 clear f0 f1 f2 f3 f4 f5 f6 f7 x0 x1 HB HX HF HC
 obtain ⟨⟨x0, x1⟩, _⟩ := HXb.two'
 go_wp2_with fail
 refine (pup_off Y T O yc tc ys t _ (Ints.of_own OY HYL.out) (it.below bw2) (by omega)).mono ?_
 rintro e w3 ⟨D, dc, rfl, OD, hb3⟩
 have HDL := Lib.hid (show (offL ys t).length = O by rw [offL_length]; exact HYL.out)
 rw [HDL.out] at OD ⊢
 have ID := Ints.of_own OD HDL.out
 clear x0 x1 OY OD
 go_wp2_with fail
 refine (vec_Dot_ok D D O dc dc _ _ w3 ID ID (by omega)).mono ?_
 rintro e w4 ⟨rfl, hb4⟩
 go_wp2
 go_ret2
 have bw3 := bw2.trans (hb3.mono bw2.size)
 exact ⟨by rw [HG.out]; rfl, bw3.trans (hb4.mono bw3.size)⟩
end Go.Proofs.YtgodgedhddngeaaGreatDoor
