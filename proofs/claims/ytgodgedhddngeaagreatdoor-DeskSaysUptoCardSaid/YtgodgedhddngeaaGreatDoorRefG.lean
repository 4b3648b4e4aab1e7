/- Gradients: the document's own text: a walk. -/
import Derived.Test.YtgodgedhddngeaaGreatDoorRefF
set_option maxRecDepth 100000
set_option maxHeartbeats 16000000
namespace Go.Proofs.YtgodgedhddngeaaGreatDoor
open Go.RowKit Pl
structure TwoR (g : Nat) (W wr : World) (u v : Value) (n m : Nat) (L M : List Int) : Prop where
 but : But g W wr
 left : wr.ownsRow W.heap.size 3 1 u n (L.map (.int .i64))
 right : wr.ownsRow W.heap.size 3 1 v m (M.map (.int .i64))
 apart : ∀ x, u.ownBlock = some x → v.ownBlock ≠ some x
theorem Ints.get {k : IntKind} {w : World} {b off n : Nat} {xs : List Int} (h : Ints k w (some ⟨b, off, none⟩) n xs) {j : Nat} (hj : j < n) : w.cell? ⟨b, off + j, none⟩ = some (.int k (at0 xs j)) := by
 obtain ⟨b', o', e, _, hc⟩ := h.cells (by omega)
 injection e with e
 injection e with e1 e2
 subst e1; subst e2
 exact hc j hj
section
variable {g : Nat} {W wr w1 : World} {u v : Value} {n m : Nat} {L M : List Int}
theorem TwoR.start (g : Nat) (W : World) : TwoR g W W (.slice none 0 0) (.slice none 0 0) 0 0 [] [] := ⟨but_refl _ _, World.ownsRow_nil _ _ _ _, World.ownsRow_nil _ _ _ _, fun x h => by simp [Value.ownBlock] at h⟩
theorem TwoR.swap (h : TwoR g W wr u v n m L M) : TwoR g W wr v u m n M L := ⟨h.but, h.right, h.left, fun x h1 h2 => h.apart x h2 h1⟩
theorem but_belowG {a b c : World} (h : But g a b) (h' : Below b.heap.size b c) : But g a c :=
 ⟨h'.os.trans h.os, h'.tape.trans h.tape, h'.output.trans h.output, Nat.le_trans h.size h'.size, fun k hk hne => (h'.block k (Nat.lt_of_lt_of_le hk h.size)).trans (h.block k hk hne)⟩
theorem TwoR.below (h : TwoR g W wr u v n m L M) (hb : Below wr.heap.size wr w1) : TwoR g W w1 u v n m L M := ⟨but_belowG h.but hb, own_below h.left hb, own_below h.right hb, h.apart⟩
theorem TwoR.ne (h : TwoR g W wr u v n m L M) (hg : g < W.heap.size) : some g ≠ u.ownBlock := fun e => by have := (h.left.lt g e.symm).1; omega
theorem TwoR.push (h : TwoR g W wr u v n m L M) (hg : g < W.heap.size) {j gg cp i : Nat} {tmp : Obj} {x : Int}
  (hown : w1.ownsRow W.heap.size 3 1 (.slice (some ⟨gg, 0, none⟩) (n + 1) cp) (n + 1) (L.map (.int .i64) ++ [.int .i64 x])) (hgrow : ((wr.drewN j).alloc tmp).grownBy w1 u.ownBlock) (hat : u.ownBlock = some gg ∨ gg = wr.heap.size + 1) :
  TwoR g W (w1.setCell ⟨g, i, none⟩ (.slice (some ⟨gg, 0, none⟩) (n + 1) cp)) (.slice (some ⟨gg, 0, none⟩) (n + 1) cp) v (n + 1) m (L ++ [x]) M := by
 have hblk : ∀ k, k < wr.heap.size → some k ≠ u.ownBlock → w1.heap[k]? = wr.heap[k]? := fun k hk hne =>
  (hgrow.block k (by simp; omega) hne).trans (Below.heap_alloc (wr.drewN j) tmp k hk)
 have b0 : Below 0 wr w1 := bel_grownD (Below.refl 0 wr) (Nat.zero_le _) hgrow (fun _ _ => Nat.zero_le _)
 refine ⟨but_put ⟨b0.os.trans h.but.os, b0.tape.trans h.but.tape, b0.output.trans h.but.output, Nat.le_trans h.but.size b0.size, fun k hk hne => (hblk k (Nat.lt_of_lt_of_le hk h.but.size) (fun e => by have := (h.left.lt k e.symm).1; omega)).trans (h.but.block k hk hne)⟩ i _, ?_, ?_, ?_⟩
 ·rw [List.map_append]
  exact own_far hown (p := ⟨g, i, none⟩) hg _
 ·refine own_keep h.right fun k hk => ?_
  have h1 := (h.right.lt k hk)
  exact (heap_setCell_other w1 ⟨g, i, none⟩ k _ (show k ≠ g by omega)).trans (hblk k h1.2 (fun e => h.apart k e.symm hk))
 ·intro x hx hv
  have e : gg = x := by simpa [Value.ownBlock] using hx
  subst e
  rcases hat with h1 | h1
  ·exact h.apart gg h1 hv
  ·have := (h.right.lt gg hv).2; omega
theorem TwoR.box (h : TwoR g W wr u v n m L M) (hg : g < W.heap.size) {t : TypeId} {cs : Array Value} (hB : Blk wr g t cs) {j i : Nat} {tmp : Obj} (z : Value) (hgrow : ((wr.drewN j).alloc tmp).grownBy w1 u.ownBlock) :
  Blk (w1.setCell ⟨g, i, none⟩ z) g t (cs.setIfInBounds i z) := (hB.grownD hgrow (h.ne hg)).put i z
end
def G2R (g : Nat) (W : World) (H I O : Nat) (v5 v7 : Value) (ms x : List Int) (r m : Nat) (wr : World) : Prop :=
 ∃ u6 u2, TwoR g W wr u6 u2 r m (upto (at0 ms) r) (upto (outF ms x I) m) ∧ Blk wr g 102 #[.int .i64 H, .int .i64 I, u2, .int .i64 O, .int .i64 H, v5, u6, v7]
def PupOwn1 (w : World) (P : Pup) (e : Ending) (w' : World) : Prop :=
 ∃ A1 k1 A2 k2 B1 d1 B2 d2, e = .returned (.agg #[.int .i64 P.r1, .int .i64 P.c1, .slice A1 P.a1.length k1, .int .i64 P.r2, .int .i64 P.c2, .slice A2 P.a2.length k2, .slice B1 P.b1.length d1, .slice B2 P.b2.length d2]) ∧
  w'.ownsRow w.heap.size 3 1 (.slice A1 P.a1.length k1) P.a1.length (P.a1.map (.int .i64)) ∧ w'.ownsRow w.heap.size 3 1 (.slice A2 P.a2.length k2) P.a2.length (P.a2.map (.int .i64)) ∧
  w'.ownsRow w.heap.size 3 1 (.slice B1 P.b1.length d1) P.b1.length (P.b1.map (.int .i64)) ∧ w'.ownsRow w.heap.size 3 1 (.slice B2 P.b2.length d2) P.b2.length (P.b2.map (.int .i64)) ∧ Below w.heap.size w w'
theorem maskL_at (h g : List Int) {k : Nat} (hk : k < g.length) : at0 (maskL h g) k = if at0 h k = 0 then 0 else at0 g k := by unfold maskL; rw [at0_upto _ hk]
theorem backL_at (A : List Int) (r c : Nat) (v : List Int) {k : Nat} (hk : k < c) : at0 (backL A r c v) k = dotN (colL A c r k) v r := by unfold backL; rw [at0_upto _ hk]
theorem outerL_upto {a b : List Int} {n m : Nat} (ha : a.length = n) (hb : b.length = m) : upto (outF a b m) (n * m) = outerL a b := by unfold outerL outF; rw [ha, hb]
def G1R (g : Nat) (W : World) (H I O : Nat) (ds hs : List Int) (r m : Nat) (wr : World) : Prop :=
 ∃ u7 u5, TwoR g W wr u7 u5 r m (upto (at0 ds) r) (upto (outF ds hs H) m) ∧ Blk wr g 102 #[.int .i64 H, .int .i64 I, .slice none 0 0, .int .i64 O, .int .i64 H, u5, .slice none 0 0, u7]
theorem ref_Grad (H I O : Nat) (A1 : Option Addr) (n1 k1 : Nat) (a1 : List Int) (A2 : Option Addr) (n2 k2 : Nat) (a2 : List Int) (B1 : Option Addr) (d1 : Nat) (b1 : List Int) (B2 : Option Addr) (d2 : Nat) (b2 : List Int) (X : Option Addr) (xc : Nat) (x : List Int) (T : Option Addr) (tc : Nat) (t : List Int) (w : World)
  (i1 : Ints .i64 w A1 n1 a1) (i2 : Ints .i64 w A2 n2 a2) (j1 : Ints .i64 w B1 H b1) (j2 : Ints .i64 w B2 O b2) (ix : Ints .i64 w X I x) (it : Ints .i64 w T O t) (hH : 1 ≤ H ∧ H ≤ 4) (hI : 1 ≤ I ∧ I ≤ 4) (hO : 1 ≤ O ∧ O ≤ 4) (e1 : n1 = H * I) (e2 : n2 = O * H) :
  Calls Tryz.prog 151 #[.agg #[.int .i64 H, .int .i64 I, .slice A1 n1 k1, .int .i64 O, .int .i64 H, .slice A2 n2 k2, .slice B1 H d1, .slice B2 O d2], .agg #[.slice X I xc, .slice T O tc]] w
   (PupOwn1 w (gradP H I O a1 b1 a2 b2 x t)) := by
 obtain ⟨i0, hi0, hz0, hz1, hz2⟩ := info_parts int_info
 obtain ⟨W0, hW0⟩ : ∃ W0, W0 = ((w.alloc (.cells #[.int .i64 H, .int .i64 I, .slice A1 n1 k1, .int .i64 O, .int .i64 H, .slice A2 n2 k2, .slice B1 H d1, .slice B2 O d2] 102)).alloc (.cells #[.slice X I xc, .slice T O tc] 73)).alloc (.cells #[.int .i64 0, .int .i64 0, .slice none 0 0, .int .i64 0, .int .i64 0, .slice none 0 0, .slice none 0 0, .slice none 0 0] 102) := ⟨_, rfl⟩
 have HB : Blk W0 w.heap.size 102 #[.int .i64 H, .int .i64 I, .slice A1 n1 k1, .int .i64 O, .int .i64 H, .slice A2 n2 k2, .slice B1 H d1, .slice B2 O d2] := by rw [hW0]; exact ((Blk.made _ _ _).alloc _).alloc _
 have HX : Blk W0 (w.heap.size + 1) 73 #[.slice X I xc, .slice T O tc] := by rw [hW0]; exact (Blk.made' _ _ _ (by simp)).alloc _
 have HR : Blk W0 (w.heap.size + 1 + 1) 102 #[.int .i64 0, .int .i64 0, .slice none 0 0, .int .i64 0, .int .i64 0, .slice none 0 0, .slice none 0 0, .slice none 0 0] := by rw [hW0]; exact Blk.made' _ _ _ (by simp)
 have bw : Below w.heap.size w W0 := by rw [hW0]; exact (((Below.refl _ _).alloc (Nat.le_refl _) _).alloc (by simp) _).alloc (by simp; omega) _
 have HF := Lib.hid (ref_Forward H I O A1 n1 k1 a1 A2 n2 k2 a2 B1 d1 b1 B2 d2 b2 X xc x W0 (i1.below bw) (i2.below bw) (j1.below bw) (j2.below bw) (ix.below bw) hH hI hO e1 e2)
 have HLC := Lib.hid (fun W k (hk : k < H) (q : Ints .i64 W A2 n2 a2) => ref_lineC O H k A2 n2 k2 a2 W q hO hH e2 hk)
 have HHL := Lib.hid (hidL_length H I a1 b1 x)
 have HYL := Lib.hid (outpL_length H I O a1 b1 a2 b2 x)
 obtain ⟨hs, hhs⟩ : ∃ hs, hs = hidL H I a1 b1 x := ⟨_, rfl⟩
 obtain ⟨ys, hys⟩ : ∃ ys, ys = outpL H I O a1 b1 a2 b2 x := ⟨_, rfl⟩
 have HHS := Lib.hid hhs
 have HYS := Lib.hid hys
 rw [← hhs] at HF HHL
 rw [← hys] at HF HYL
 have lt3 := HR.lt
 obtain ⟨f0, f1, f2, f3, f4, f5, f6, f7⟩ := HB.pup
 obtain ⟨⟨x0, x1⟩, _⟩ := HX.two'
 clear e1 e2 hhs hys i1 j1 j2
 go_enter Tryz.func151, Tryz.ntmps151
 go_wp2_with fail
 rw [← hW0]
 clear hW0
 refine HF.out.mono ?_
 rintro e w1 ⟨S, s, Y, yc, rfl, OS, OY, hb1⟩
 have IY := Ints.of_own OY HYL.out
 have IS := Ints.of_own OS HHL.out
 have bw1 := bw.trans (hb1.mono bw.size)
 have IT := it.below bw1
 have IX := ix.below bw1
 have I2 := i2.below bw1
 obtain ⟨bs, os_, hSe, _, _⟩ := IS.cells (by omega)
 subst hSe
 obtain ⟨by_, oy, hYe, _, _⟩ := IY.cells (by omega)
 subst hYe
 obtain ⟨bt, ot, hTe, _, _⟩ := IT.cells (by omega)
 subst hTe
 obtain ⟨bx, ox, hXe, _, _⟩ := IX.cells (by omega)
 subst hXe
 have HX1 := HX.below hb1 HX.lt
 have HB1 := HB.below hb1 HB.lt
 have HR1 := HR.below hb1 HR.lt
 have hl3 := HR1.lt
 clear f0 f1 f2 f3 f4 f5 f6 f7 x0 x1 HB HX HR OY OS it ix i2
 obtain ⟨f0, f1, f2, f3, f4, f5, f6, f7⟩ := HB1.pup
 obtain ⟨⟨x0, x1⟩, _⟩ := HX1.two'
 have HD := Lib.hid (fun k (hk : k < O) => show at0 (offL ys t) k = subF (at0 ys k) (at0 t k) by unfold offL; rw [at0_upto _ (by rw [HYL.out]; exact hk)])
 have HDL := Lib.hid (show (offL ys t).length = O by rw [offL_length]; exact HYL.out)
 obtain ⟨ds, hds⟩ : ∃ ds, ds = offL ys t := ⟨_, rfl⟩
 rw [← hds] at HD HDL
 have HDS := Lib.hid hds
 obtain ⟨g, hg⟩ : ∃ g, g = w1.heap.size := ⟨_, rfl⟩
 have HGg := Lib.hid hg
 clear hds hg
 go_wp2
 obtain ⟨W, hW⟩ : ∃ W, W = w1.alloc (.cells #[.int .i64 H, .int .i64 I, .slice none 0 0, .int .i64 O, .int .i64 H, .slice none 0 0, .slice none 0 0, .slice none 0 0] 102) := ⟨_, rfl⟩
 rw [← hW, ← HGg.out]
 have HBg : Blk W g 102 #[.int .i64 H, .int .i64 I, .slice none 0 0, .int .i64 O, .int .i64 H, .slice none 0 0, .slice none 0 0, .slice none 0 0] := by rw [hW, HGg.out]; exact Blk.made _ _ _
 have hgW := HBg.lt
 have hWb : Below g w1 W := by rw [hW, HGg.out]; exact (Below.refl _ _).alloc (Nat.le_refl _) _
 have HBw := Lib.hid (fun wr (h : But g W wr) => show Below w1.heap.size w1 wr by rw [← HGg.out]; exact hWb.trans (h.below (Nat.le_refl _) (Nat.le_of_lt hgW)))
 have lw : w.heap.size + 1 + 1 < g := by rw [HGg.out]; exact hl3
 have S0 : G1R g W H I O ds hs 0 0 W := ⟨_, _, by exact TwoR.start g W, HBg⟩
 clear hW hWb f0 f1 f2 f3 f4 f5 f6 f7 x0 x1 HBg
 go_loopw [8, 9, 10] (fun i _ _ wr => ∃ r : Nat, r ≤ O ∧ i = .int .i64 r ∧ G1R g W H I O ds hs r (r * H) wr) (fun i _ _ _ => O - (intOf i).toNat)
 case atStart => exact ⟨0, Nat.zero_le _, rfl, by rw [Nat.zero_mul]; exact S0⟩
 case round =>
  clear S0
  obtain ⟨r, hr, rfl, u7, u5, hT, hBk⟩ := hrel
  have hbw := HBw.out _ hT.but
  have HBr := HB1.below hbw HB1.lt
  by_cases hlt : r < O
  ·have gy := (IY.below hbw).get hlt
   have gt := (IT.below hbw).get hlt
   obtain ⟨f0, f1, f2, f3, f4, f5, f6, f7⟩ := HBr.pup
   obtain ⟨⟨x0, x1⟩, _⟩ := (HX1.below hbw HX1.lt).two'
   have HDr := Lib.hid (HD.out r hlt)
   have F := Lib.hid (show upto (at0 ds) (r + 1) = upto (at0 ds) r ++ [at0 ds r] from upto_succ _ _)
   obtain ⟨p, hp⟩ : ∃ p, p = at0 ys r := ⟨_, rfl⟩
   obtain ⟨q, hq⟩ : ∃ q, q = at0 t r := ⟨_, rfl⟩
   rw [← hp] at gy HDr
   rw [← hq] at gt HDr
   have k0 : (0 : Int) ≤ (r : Int) := by omega
   have k1' : (r : Int) < (O : Int) := by omega
   obtain ⟨d, hd⟩ : ∃ d, d = at0 ds r := ⟨_, rfl⟩
   rw [← hd] at HDr F
   have HDd := Lib.hid hd
   have c7 : ∀ k, (wr.drewN k).cell? ⟨g, 7, none⟩ = some u7 := fun k => (hBk.drewN k).cell 7
   have c7' : ∀ k o, ((wr.drewN k).alloc o).cell? ⟨g, 7, none⟩ = some u7 := fun k o => ((hBk.drewN k).alloc o).cell 7
   have hwW := hT.but.size
   have hHT := Lib.hid hT
   have hHB := Lib.hid hBk
   clear hp hq hd hT hBk
   go_wp2
   go_quiet ((go_at_call 103; exact Calls.quiet_of ((ref_Sub _ _ _).mono fun _ _ ⟨he, hw⟩ => ⟨he, 0, hw.symm⟩)))
   rw [← HDr.out]
   go_wp2_with (at_builtin; refine wpList_append_lies _ rfl _ _ _ rfl W.heap.size 3 i0 (.int .i64 0) 1 8 Tryz.underlying56 hi0 hz0 hz1 hz2 rfl (by omega) u7 r _ rfl (own_allocD hHT.out.left _ _) ⟨wr.heap.size, 0, none⟩ 1 1 [.int .i64 d] rfl rfl (cell_one_new _ _ _) (by simp [Value.oneCell']) (by omega) (by unfold maxLen; omega) (by omega) (by simp; omega) (wr.heap.size + 1) (by simp) ?_; intro gg cp w4 hown4 hgrow hat hlt4; have hBg4 := hHB.out.grownD hgrow (hHT.out.ne hgW); have c74 := hBg4.cell 7; have z74 := hBg4.frozen 7)
   obtain ⟨wo, hwo⟩ : ∃ wo, wo = w4.setCell ⟨g, 7, none⟩ (.slice (some ⟨gg, 0, none⟩) (r + 1) cp) := ⟨_, rfl⟩
   rw [← hwo]
   have S1 : G1R g W H I O ds hs (r + 1) (r * H) wo := by
    rw [hwo]
    exact ⟨_, u5, by rw [F.out]; exact hHT.out.push hgW hown4 hgrow hat, hHT.out.box hgW hHB.out _ hgrow⟩
   clear hwo hown4 hgrow hat hlt4 hBg4 c74 z74 hHT hHB c7 c7' f0 f1 f2 f3 f4 f5 f6 f7 x0 x1 gy gt hwW HBr hbw
   go_loopw [10] (fun j wr => ∃ c : Nat, c ≤ H ∧ j = .int .i64 c ∧ G1R g W H I O ds hs (r + 1) (r * H + c) wr) (fun j _ => H - (intOf j).toNat)
   case atStart => exact ⟨0, Nat.zero_le _, rfl, S1⟩
   case round =>
    clear S1
    obtain ⟨c, hc, rfl, v7, v5, hT, hBk⟩ := hrel
    have hbw := HBw.out _ hT.but
    have HBr := HB1.below hbw HB1.lt
    obtain ⟨f0, f1, f2, f3, f4, f5, f6, f7⟩ := HBr.pup
    by_cases hl2 : c < H
    ·have gh := (IS.below hbw).get hl2
     have k2 : (0 : Int) ≤ (c : Int) := by omega
     have k3 : (c : Int) < (H : Int) := by omega
     have hK : r * H + c ≤ 100 := by
      have : r * H ≤ 4 * 4 := Nat.mul_le_mul (by omega) (by omega)
      omega
     have HFo := Lib.hid (show outF ds hs H (r * H + c) = mulF d (at0 hs c) by rw [outF_at ds hs hl2 r, HDd.out])
     have F2 := Lib.hid (show upto (outF ds hs H) (r * H + c + 1) = upto (outF ds hs H) (r * H + c) ++ [mulF d (at0 hs c)] by rw [← HFo.out]; exact upto_succ _ _)
     obtain ⟨e, he⟩ : ∃ e, e = at0 hs c := ⟨_, rfl⟩
     rw [← he] at gh F2
     obtain ⟨K, hKe⟩ : ∃ K, K = r * H + c := ⟨_, rfl⟩
     rw [← hKe] at hT hK F2
     have HKe := Lib.hid hKe
     have c5 : wr.cell? ⟨g, 5, none⟩ = some v5 := hBk.cell 5
     have c5' : ∀ k o, ((wr.drewN k).alloc o).cell? ⟨g, 5, none⟩ = some v5 := fun k o => ((hBk.drewN k).alloc o).cell 5
     have hwW := hT.but.size
     have hHT := Lib.hid hT.swap
     have hHB := Lib.hid hBk
     clear he hT hBk hKe
     go_wp2
     go_region_law (first
      | (go_simp; go_at_call 105; refine (ref_Mul _ _ _).mono ?_; rintro e' w' ⟨rfl, kk, rfl⟩)
      | (refine step_append_lies _ (by rfl) _ _ _ (by rfl) W.heap.size 3 i0 _ 1 8 Tryz.underlying56 hi0 hz0 hz1 hz2 rfl (by omega) v5 K _ (by rfl) (by exact own_allocD hHT.out.left (1 + kk) _) ⟨wr.heap.size, 0, none⟩ 1 1 [.int .i64 (mulF d e)] (by rfl) (by rfl) (World.news_of_block (cs := #[.int .i64 (mulF d e)]) (t := 3) (fr := (0, 0)) (heap_alloc_new _ _)) (by simp [Value.oneCell']) (by omega) (by unfold maxLen; omega) (by omega) (by simp; omega) (wr.heap.size + 1) (by simp) ?_; intro gg2 cp2 w5 hown5 hgrow5 hat5 hlt5; have hBg5 := hHB.out.grownD hgrow5 (hHT.out.ne hgW); have c75 := hBg5.cell 5; have z75 := hBg5.frozen 5)
      | fail)
     all_goals
      go_wp2
      go_roundw
      case rel => exact ⟨c + 1, by omega, by go_num, v7, _, by rw [← Nat.add_assoc, ← HKe.out, F2.out]; exact (hHT.out.push hgW hown5 hgrow5 hat5).swap, hHT.out.box hgW hHB.out _ hgrow5⟩
      case measure => simp [intOf]; omega
    ·obtain rfl : H = c := by omega
     go_wp2
     go_roundw
     case rel => exact ⟨r + 1, by omega, by go_num, by rw [Nat.succ_mul]; exact ⟨v7, v5, hT, hBk⟩⟩
     case measure => simp [intOf]; omega
  ·obtain rfl : O = r := by omega
   have E7 : upto (at0 ds) O = ds := by have := upto_at0 ds; rw [HDL.out] at this; exact this
   rw [E7, outerL_upto HDL.out HHL.out] at hT
   have HL5 := Lib.hid (show (outerL ds hs).length = O * H by rw [← outerL_upto HDL.out HHL.out, upto_length])
   obtain ⟨L5, hL5⟩ : ∃ L5, L5 = outerL ds hs := ⟨_, rfl⟩
   rw [← hL5] at hT HL5
   have HL5e := Lib.hid hL5
   have op7 := hT.left
   have op5 := hT.right
   have pos5 : 0 < O * H := Nat.mul_pos (by omega) (by omega)
   obtain ⟨g7, p7, rfl, _, _⟩ := op7.form (by omega)
   obtain ⟨g5, p5, rfl, _, _⟩ := op5.form pos5
   have hMS := Lib.hid (fun k (hk : k < H) => show at0 (maskL hs (backL a2 O H ds)) k = if at0 hs k = 0 then 0 else dotN (colL a2 H O k) ds O by rw [maskL_at _ _ (by rw [backL_length]; exact hk), backL_at _ _ _ _ hk])
   have hMSL := Lib.hid (show (maskL hs (backL a2 O H ds)).length = H by rw [maskL_length, backL_length])
   obtain ⟨ms, hms⟩ : ∃ ms, ms = maskL hs (backL a2 O H ds) := ⟨_, rfl⟩
   have HMSe := Lib.hid hms
   rw [← hms] at hMS hMSL
   obtain ⟨f0, f1, f2, f3, f4, f5, f6, f7⟩ := HBr.pup
   have I7 := Ints.of_own op7 HDL.out
   have hgwr : g < wr.heap.size := hBk.lt
   have butW := hT.but
   clear E7 hL5 hms hT hlt
   go_wp2
   obtain ⟨wa, hwa⟩ : ∃ wa : World, wa = wr := ⟨_, rfl⟩
   rw [← hwa] at hbw op7 op5 I7 HBr hBk hgwr butW ⊢
   clear hwa f0 f1 f2 f3 f4 f5 f6 f7
   have HBa := Lib.hid (fun wr (h : But g wa wr) => show Below w1.heap.size w1 wr by exact hbw.trans ((h.below (Nat.le_refl _) (Nat.le_of_lt hgwr)).mono (by rw [← HGg.out]; exact Nat.le_refl _)))
   have S0 : G2R g wa H I O (.slice (some ⟨g5, 0, none⟩) (O * H) p5) (.slice (some ⟨g7, 0, none⟩) O p7) ms x 0 0 wa := ⟨_, _, by exact TwoR.start g wa, hBk⟩
   clear HBr hBk
   go_loopw [11, 12, 13] (fun i _ _ wr => ∃ k : Nat, k ≤ H ∧ i = .int .i64 k ∧ G2R g wa H I O (.slice (some ⟨g5, 0, none⟩) (O * H) p5) (.slice (some ⟨g7, 0, none⟩) O p7) ms x k (k * I) wr) (fun i _ _ _ => H - (intOf i).toNat)
   case atStart => exact ⟨0, Nat.zero_le _, rfl, by rw [Nat.zero_mul]; exact S0⟩
   case round =>
    clear S0
    obtain ⟨k, hk, rfl, u6, u2, hT, hBk⟩ := hrel
    have hbr := HBa.out _ hT.but
    have HBr := HB1.below hbr HB1.lt
    obtain ⟨f0, f1, f2, f3, f4, f5, f6, f7⟩ := HBr.pup
    by_cases hlt : k < H
    ·have gh := (IS.below hbr).get hlt
     have k0 : (0 : Int) ≤ (k : Int) := by omega
     have k1' : (k : Int) < (H : Int) := by omega
     have HMk := Lib.hid (hMS.out k hlt)
     obtain ⟨e, he⟩ : ∃ e, e = at0 hs k := ⟨_, rfl⟩
     rw [← he] at gh HMk
     obtain ⟨m, hm⟩ : ∃ m, m = at0 ms k := ⟨_, rfl⟩
     rw [← hm] at HMk
     have HMm := Lib.hid hm
     have hHT := Lib.hid hT
     have hHB := Lib.hid hBk
     have hltB := hBk.lt
     have c7 : wr.cell? ⟨g, 7, none⟩ = some (.slice (some ⟨g7, 0, none⟩) O p7) := hBk.cell 7
     have I7r : Ints .i64 wr (some ⟨g7, 0, none⟩) O ds := Ints.of_own (own_but op7 hT.but hgW) HDL.out
     have I2r := I2.below hbr
     have hltr := HBr.lt
     clear he hm hT hBk
     go_upto_if 90 with fail
     go_cut [12] (fun v wx => v = .int .i64 m ∧ Below wr.heap.size wr wx)
     case first =>
      by_cases h0 : e = 0
      ·have M0 := Lib.hid (show m = 0 by rw [HMk.out, if_pos h0])
       have t0 : (e != 0) = false := by rw [bne_eq_false_iff_eq]; exact h0
       clear h0
       go_wp2
       go_meet
       case rel => exact ⟨by rw [M0.out], Below.refl _ _⟩
      ·have M0 := Lib.hid (show m = dotN (colL a2 H O k) ds O by rw [HMk.out, if_neg h0])
       have t0 : (e != 0) = true := by rw [bne_iff_ne]; exact h0
       have HS := Lib.hid (fun Z (h : Below wr.heap.size wr Z) => (show Z.cell? ⟨w.heap.size, 3, none⟩ = some (.int .i64 O) ∧ Z.cell? ⟨w.heap.size, 4, none⟩ = some (.int .i64 H) ∧ Z.cell? ⟨w.heap.size, 5, none⟩ = some (.slice A2 n2 k2) ∧ Z.cell? ⟨g, 7, none⟩ = some (.slice (some ⟨g7, 0, none⟩) O p7) from
        ⟨(h.cell (p := ⟨w.heap.size, 3, none⟩) hltr).trans f3, (h.cell (p := ⟨w.heap.size, 4, none⟩) hltr).trans f4, (h.cell (p := ⟨w.heap.size, 5, none⟩) hltr).trans f5, (h.cell (p := ⟨g, 7, none⟩) hltB).trans c7⟩))
       have LL := Lib.hid (fun Z (q : Ints .i64 Z A2 n2 a2) => HLC.out Z k hlt q)
       clear h0
       go_wp2
       go_region_held3 (fun Z => Z.cell? ⟨w.heap.size, 3, none⟩ = some (.int .i64 O) ∧ Z.cell? ⟨w.heap.size, 4, none⟩ = some (.int .i64 H) ∧ Z.cell? ⟨w.heap.size, 5, none⟩ = some (.slice A2 n2 k2) ∧ Z.cell? ⟨g, 7, none⟩ = some (.slice (some ⟨g7, 0, none⟩) O p7))
        (first | exact HS.out _ ((Below.refl _ _).drew) | exact HS.out _ (bel_drewN hB1 _) | exact HS.out _ hB1 | go_keep)
        (first
         | (go_at_call 156; (with_reducible refine (LL.out _ (I2r.drew)).mono ?_); rintro e' u1 ⟨l, cp, rfl, hIl, hb1'⟩; have hB1 : Below wr.heap.size wr u1 := bel_trans ((Below.refl _ _).drew) hb1')
         | (go_at_call 155; (refine (ref_Dot l _ O cp p7 O _ ds _ hIl (I7r.below hB1) (Nat.le_refl _) (by omega)).mono ?_); rintro e' u2' ⟨rfl, q2, rfl⟩)
         | fail)
       rw [← M0.out]
       go_wp2
       go_meet
       case rel => exact ⟨rfl, bel_drewN hB1 _⟩
     case rest =>
     obtain ⟨rfl, hbc⟩ := hcut
     obtain ⟨wb, hwb⟩ : ∃ wb : World, wb = wc := ⟨_, rfl⟩
     rw [← hwb] at hbc ⊢
     clear hwb
     have hT3 := hHT.out.below hbc
     have hBk3 := hHB.out.below hbc hltB
     have hbr3 := HBa.out _ hT3.but
     have F := Lib.hid (show upto (at0 ms) (k + 1) = upto (at0 ms) k ++ [m] by rw [HMm.out]; exact upto_succ _ _)
     have c6 : wb.cell? ⟨g, 6, none⟩ = some u6 := hBk3.cell 6
     have c6' : ∀ k o, ((wb.drewN k).alloc o).cell? ⟨g, 6, none⟩ = some u6 := fun k o => ((hBk3.drewN k).alloc o).cell 6
     have hwW := hT3.but.size
     have H3 := Lib.hid hT3
     have B3 := Lib.hid hBk3
     clear hT3 hBk3 hHT hHB f0 f1 f2 f3 f4 f5 f6 f7 gh c7 I7r I2r HBr
     go_wp2_with (at_builtin; refine wpList_append_lies _ rfl _ _ _ rfl wa.heap.size 3 i0 (.int .i64 0) 1 8 Tryz.underlying56 hi0 hz0 hz1 hz2 rfl (by omega) u6 k _ rfl (by exact own_allocD H3.out.left 0 _) ⟨wb.heap.size, 0, none⟩ 1 1 [.int .i64 m] rfl rfl (cell_one_new _ _ _) (by simp [Value.oneCell']) (by omega) (by unfold maxLen; omega) (by omega) (by simp; omega) (wb.heap.size + 1) (by simp) ?_; intro gg cp w4 hown4 hgrow hat hlt4; have hBg4 : Blk w4 g 102 _ := Blk.grownD (k := 0) B3.out hgrow (H3.out.ne hgwr); have c64 := hBg4.cell 6; have z64 := hBg4.frozen 6)
     obtain ⟨wo, hwo⟩ : ∃ wo, wo = w4.setCell ⟨g, 6, none⟩ (.slice (some ⟨gg, 0, none⟩) (k + 1) cp) := ⟨_, rfl⟩
     rw [← hwo]
     have S1 : G2R g wa H I O (.slice (some ⟨g5, 0, none⟩) (O * H) p5) (.slice (some ⟨g7, 0, none⟩) O p7) ms x (k + 1) (k * I) wo := by
      rw [hwo]
      exact ⟨_, u2, by rw [F.out]; exact H3.out.push (j := 0) hgwr hown4 hgrow hat, H3.out.box (j := 0) hgwr B3.out _ hgrow⟩
     clear hwo hown4 hgrow hat hlt4 hBg4 c64 z64 H3 B3 c6 c6' hwW hbr hbr3 hbc
     go_loopw [13] (fun j wr => ∃ c : Nat, c ≤ I ∧ j = .int .i64 c ∧ G2R g wa H I O (.slice (some ⟨g5, 0, none⟩) (O * H) p5) (.slice (some ⟨g7, 0, none⟩) O p7) ms x (k + 1) (k * I + c) wr) (fun j _ => I - (intOf j).toNat)
     case atStart => exact ⟨0, Nat.zero_le _, rfl, S1⟩
     case round =>
      clear S1
      obtain ⟨c, hc, rfl, v6, v2, hT, hBk⟩ := hrel
      have hbw := HBa.out _ hT.but
      have HBr := HB1.below hbw HB1.lt
      obtain ⟨f0, f1, f2, f3, f4, f5, f6, f7⟩ := HBr.pup
      by_cases hl2 : c < I
      ·have gh := (IX.below hbw).get hl2
       obtain ⟨⟨x0, x1⟩, _⟩ := (HX1.below hbw HX1.lt).two'
       have x0' : ∀ k, (wr.drewN k).cell? ⟨w.heap.size + 1, 0, none⟩ = some (.slice (some ⟨bx, ox, none⟩) I xc) := fun k => x0
       have k2 : (0 : Int) ≤ (c : Int) := by omega
       have k3 : (c : Int) < (I : Int) := by omega
       have hK : k * I + c ≤ 100 := by
        have : k * I ≤ 4 * 4 := Nat.mul_le_mul (by omega) (by omega)
        omega
       have HFo := Lib.hid (show outF ms x I (k * I + c) = mulF m (at0 x c) by rw [outF_at ms x hl2 k, HMm.out])
       have F2 := Lib.hid (show upto (outF ms x I) (k * I + c + 1) = upto (outF ms x I) (k * I + c) ++ [mulF m (at0 x c)] by rw [← HFo.out]; exact upto_succ _ _)
       obtain ⟨e, he⟩ : ∃ e, e = at0 x c := ⟨_, rfl⟩
       rw [← he] at gh F2
       obtain ⟨K, hKe⟩ : ∃ K, K = k * I + c := ⟨_, rfl⟩
       rw [← hKe] at hT hK F2
       have HKe := Lib.hid hKe
       have c2 : wr.cell? ⟨g, 2, none⟩ = some v2 := hBk.cell 2
       have c2' : ∀ k o, ((wr.drewN k).alloc o).cell? ⟨g, 2, none⟩ = some v2 := fun k o => ((hBk.drewN k).alloc o).cell 2
       have hwW := hT.but.size
       have hHT := Lib.hid hT.swap
       have hHB := Lib.hid hBk
       clear he hT hBk hKe
       go_wp2
       go_region_law (first
        | (go_simp; go_at_call 105; refine (ref_Mul _ _ _).mono ?_; rintro e' w' ⟨rfl, kk, rfl⟩)
        | (refine step_append_lies _ (by rfl) _ _ _ (by rfl) wa.heap.size 3 i0 _ 1 8 Tryz.underlying56 hi0 hz0 hz1 hz2 rfl (by omega) v2 K _ (by rfl) (by exact own_allocD hHT.out.left (1 + kk) _) ⟨wr.heap.size, 0, none⟩ 1 1 [.int .i64 (mulF m e)] (by rfl) (by rfl) (World.news_of_block (cs := #[.int .i64 (mulF m e)]) (t := 3) (fr := (0, 0)) (heap_alloc_new _ _)) (by simp [Value.oneCell']) (by omega) (by unfold maxLen; omega) (by omega) (by simp; omega) (wr.heap.size + 1) (by simp) ?_; intro gg2 cp2 w5 hown5 hgrow5 hat5 hlt5; have hBg5 := hHB.out.grownD hgrow5 (hHT.out.ne hgwr); have c25 := hBg5.cell 2; have z25 := hBg5.frozen 2)
        | fail)
       all_goals
        go_wp2
        go_roundw
        case rel => exact ⟨c + 1, by omega, by go_num, v6, _, by rw [← Nat.add_assoc, ← HKe.out, F2.out]; exact (hHT.out.push hgwr hown5 hgrow5 hat5).swap, hHT.out.box hgwr hHB.out _ hgrow5⟩
        case measure => simp [intOf]; omega
      ·obtain rfl : I = c := by omega
       go_wp2
       go_roundw
       case rel => exact ⟨k + 1, by omega, by go_num, by rw [Nat.succ_mul]; exact ⟨v6, v2, hT, hBk⟩⟩
       case measure => simp [intOf]; omega
    ·obtain rfl : H = k := by omega
     have E6 : upto (at0 ms) H = ms := by have := upto_at0 ms; rw [hMSL.out] at this; exact this
     rw [E6, outerL_upto hMSL.out IX.len] at hT
     have HL2 := Lib.hid (show (outerL ms x).length = H * I by rw [← outerL_upto hMSL.out IX.len, upto_length])
     obtain ⟨L2, hL2⟩ : ∃ L2, L2 = outerL ms x := ⟨_, rfl⟩
     rw [← hL2] at hT HL2
     have HL2e := Lib.hid hL2
     have op6 := hT.left
     have op2 := hT.right
     obtain ⟨U6, p6, rfl⟩ := own_sliceR op6
     obtain ⟨U2, p2, rfl⟩ := own_sliceR op2
     have op7' := own_but op7 hT.but hgW
     have op5' := own_but op5 hT.but hgW
     have HRr := HR1.below hbr HR1.lt
     obtain ⟨c0, c1, c2, c3, c4, c5, c6, c7⟩ := hBk.pup
     obtain ⟨y0, y1, y2, y3, y4, y5, y6, y7⟩ := HRr.pup
     obtain ⟨z0, z1, z2, z3, z4, z5, z6, z7⟩ := HRr.pupz
     have hwaW := butW.size
     have HGP := Lib.hid (show gradP H I O a1 b1 a2 b2 x t = ⟨H, I, L2, O, H, L5, ms, ds⟩ by unfold gradP gB1; rw [HL2e.out, HL5e.out, HMSe.out, HDS.out, HHS.out, HYS.out])
     obtain ⟨ρ, hρ⟩ : ∃ ρ, ρ = w.heap.size + 1 + 1 := ⟨_, rfl⟩
     have HRHO := Lib.hid hρ
     have bF : Below w.heap.size w wr := bw1.trans (hbr.mono bw1.size)
     clear E6 hL2 hρ
     go_wp2
     refine bodyPost_ret (v := .agg #[.int .i64 H, .int .i64 I, .slice U2 (H * I) p2, .int .i64 O, .int .i64 H, .slice (some ⟨g5, 0, none⟩) (O * H) p5, .slice U6 H p6, .slice (some ⟨g7, 0, none⟩) O p7]) (by simp [results, Tryz.results151, go_sem, y0, y1, y2, y3, y4, y5, y6, y7]) rfl ?_
     have B8 : But ρ wr ((((((((wr.setCell ⟨ρ, 0, none⟩ (.int .i64 H)).setCell ⟨ρ, 1, none⟩ (.int .i64 I)).setCell ⟨ρ, 2, none⟩ (.slice U2 (H * I) p2)).setCell ⟨ρ, 3, none⟩ (.int .i64 O)).setCell ⟨ρ, 4, none⟩ (.int .i64 H)).setCell ⟨ρ, 5, none⟩ (.slice (some ⟨g5, 0, none⟩) (O * H) p5)).setCell ⟨ρ, 6, none⟩ (.slice U6 H p6)).setCell ⟨ρ, 7, none⟩ (.slice (some ⟨g7, 0, none⟩) O p7)) :=
      but_put (but_put (but_put (but_put (but_put (but_put (but_put (but_put (but_refl _ _) 0 _) 1 _) 2 _) 3 _) 4 _) 5 _) 6 _) 7 _
     have hρg : ρ < g := by rw [HRHO.out]; exact lw
     have hρw : w.heap.size ≤ ρ := by rw [HRHO.out]; omega
     have R1 := own_base (own_but op2 B8 (by omega)) (show w.heap.size ≤ wa.heap.size by omega)
     have R2 := own_base (own_but op5' B8 (by omega)) (show w.heap.size ≤ W.heap.size by omega)
     have R3 := own_base (own_but op6 B8 (by omega)) (show w.heap.size ≤ wa.heap.size by omega)
     have R4 := own_base (own_but op7' B8 (by omega)) (show w.heap.size ≤ W.heap.size by omega)
     have B9 : Below w.heap.size w _ := bF.trans (B8.below hρw bF.size)
     rw [HRHO.out] at R1 R2 R3 R4 B9
     rw [HGP.out]
     exact ⟨_, _, _, _, _, _, _, _, by dsimp only; rw [HL2.out, HL5.out, hMSL.out, HDL.out], by dsimp only; rw [HL2.out]; exact R1, by dsimp only; rw [HL5.out]; exact R2, by dsimp only; rw [hMSL.out]; exact R3, by dsimp only; rw [HDL.out]; exact R4, B9⟩
end Go.Proofs.YtgodgedhddngeaaGreatDoor
