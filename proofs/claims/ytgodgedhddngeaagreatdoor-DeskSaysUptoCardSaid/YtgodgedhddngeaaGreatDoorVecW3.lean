/- What vec.Mul computes: of each row its product with a list: a walk over slices.Chunk. -/
import Derived.Test.YtgodgedhddngeaaGreatDoorVecW
import Derived.Test.YtgodgedhddngeaaGreatDoorChunk
import Derived.RegionTactic
set_option maxRecDepth 100000
set_option maxHeartbeats 16000000
namespace Go.Proofs.YtgodgedhddngeaaGreatDoor
open Go.RowKit Go.Shelf Pl
attribute [local go_sem] Oper.semAt_some
theorem cut_mul {n c r : Nat} {l : List (Piece n c)} (hc : 1 ≤ c) (hn : n = r * c) (hcut : Cut n c l) (hle : n ≤ l.length * c) (xs ys : List Int) (hx : xs.length = n) :
  (l.map fun x => dotN ((xs.drop x.1.1).take x.1.2) ys x.1.2) = mulL xs r c ys := by
 have h1 : l.length ≤ r := by
  rcases Nat.lt_or_ge r l.length with h | h
  ·obtain ⟨e, _⟩ := hcut r h
   have := l[r].2
   omega
  ·exact h
 have h2 : r ≤ l.length := by
  have h3 : r * c ≤ l.length * c := by rw [← hn]; exact hle
  exact Nat.le_of_mul_le_mul_right h3 (by omega)
 apply List.ext_getElem
 ·rw [List.length_map, mulL_length]; omega
 ·intro i hi hi'
  rw [List.length_map] at hi
  obtain ⟨e1, e2⟩ := hcut i hi
  have hb : (i + 1) * c ≤ n := by rw [hn]; exact Nat.mul_le_mul_right _ (by omega)
  have hb' : (i + 1) * c = i * c + c := Nat.succ_mul i c
  rw [List.getElem_map, e1, e2, show min c (n - i * c) = c by omega, rowL_cut xs c i (by omega)]
  simp [mulL, upto]
theorem boxed_push {W w1 : World} {n₀ n₁ B : Nat} {t e : TypeId} {v v' : Value} {k m j : Nat} {xs ys : List Value} {tmp : Obj}
  (hv : Boxed W B t v) (hB : B < n₁) (hrow : W.ownsRow n₁ e 1 v k xs) (hn₁ : n₁ ≤ W.heap.size) (hn₀ : n₀ ≤ B) (hown' : w1.ownsRow n₁ e 1 v' m ys) (hgrow : ((W.drewN j).alloc tmp).grownBy w1 v.ownBlock) :
  Boxed w1 B t v ∧ Boxed (w1.setCell ⟨B, 0, none⟩ v') B t v' ∧ (w1.setCell ⟨B, 0, none⟩ v').ownsRow n₁ e 1 v' m ys ∧ (∀ C, KeepsFrom C W (w1.setCell ⟨B, 0, none⟩ v')) ∧ Below n₀ W (w1.setCell ⟨B, 0, none⟩ v') ∧
   ∀ g, g < n₁ → g ≠ B → (w1.setCell ⟨B, 0, none⟩ v').heap[g]? = W.heap[g]? := by
 have hblk : ∀ g, g < W.heap.size → some g ≠ v.ownBlock → w1.heap[g]? = W.heap[g]? := fun g hg hne =>
  (hgrow.block g (by simp; omega) hne).trans (Below.heap_alloc (W.drewN j) tmp g hg)
 have hnr : ∀ g, g < n₁ → some g ≠ v.ownBlock := fun g hg h => by have := (hrow.lt g h.symm).1; omega
 have h1 : Boxed w1 B t v := (hblk B hv.lt (hnr B hB)).trans hv
 refine ⟨h1, h1.set v', own_far hown' hB v', fun C => ⟨?_, fun g o _ hg ho => ?_⟩, ?_, fun g hg hne => ?_⟩
 ·have := hgrow.size
  simp at this
  simp; omega
 ·have hlt := (Array.getElem?_eq_some_iff.1 hg).1
  have n1 : g ≠ B := by rintro rfl; rw [show W.heap[g]? = _ from hv] at hg; cases hg; cases ho
  have n2 : some g ≠ v.ownBlock := fun h => by
   rcases hrow.2 with ⟨rfl, _⟩ | ⟨g', cap, cur, rfl, _, hc, _⟩
   ·simp [Value.ownBlock] at h
   ·have : g = g' := by simpa [Value.ownBlock] using h
    subst this
    rw [hc] at hg; cases hg; cases ho
  exact ((heap_setCell_other w1 _ g v' n1).trans (hblk g hlt n2)).trans hg
 ·exact (bel_grownD (Below.refl n₀ W) (by omega) hgrow (fun x hx => by have := (hrow.lt x hx).1; omega)).setCell hn₀ v'
 ·exact (heap_setCell_other w1 _ g v' hne).trans (hblk g (by omega) (hnr g hg))
theorem vec_Mul_ok (r c : Nat) (A B : Option Addr) (n cap d : Nat) (xs ys : List Int) (w : World) (hx : Ints .i64 w A n xs) (hy : Ints .i64 w B c ys) (hr : 1 ≤ r ∧ r ≤ 4) (hc : 1 ≤ c ∧ c ≤ 4) (hn : n = r * c) (hcap : n ≤ cap) (ho : okL xs = true) :
  Calls Tryz.prog 133 #[.agg #[.int .i64 r, .int .i64 c, .slice A n cap], .slice B c d] w (OwnRes w (mulL xs r c ys) 0) := by
 have hn16 : n ≤ 16 := by
  have := side_mul (r := r) (c := c) (by omega) (by omega)
  have h2 : ((r * c : Nat) : Int) = (r : Int) * (c : Int) := Int.natCast_mul _ _
  omega
 have hn1 : 1 ≤ n := by
  have := side_mul (r := r) (c := c) (by omega) (by omega)
  have h2 : ((r * c : Nat) : Int) = (r : Int) * (c : Int) := Int.natCast_mul _ _
  omega
 have hE : matE r c xs = 0 := matE_5 (sideB_iff.2 (by omega)) (sideB_iff.2 (by omega)) (by rw [hx.len, hn, Int.natCast_mul]) ho
 obtain ⟨i0, hi0, hz0, hz1, hz2⟩ := info_parts int_info
 obtain ⟨b, off, rfl, hbl, hcx⟩ := hx.cells hn1
 have HCX := Lib.hid hcx
 clear hcx
 have HA := Lib.hid ((large1 B c d).trans (decide_eq_false (show ¬ 200 < c by omega)))
 refine (callsIn_wide (n := 5)).1 ?_
 refine callsIn_of_wp_marks Tryz.func133 rfl trivial ?_ rfl
 simp only [Tryz.ntmps133, List.size_toArray, List.length_cons, List.length_nil, Nat.reduceAdd, Nat.reduceSub, Array.replicate_succ, Array.replicate_zero, List.push_toArray, List.append_toArray, List.nil_append, List.cons_append]
 have HV : Vals (((w.alloc (.cells #[.int .i64 r, .int .i64 c, .slice (some ⟨b, off, none⟩) n cap] 100)).alloc (.cells #[.slice B c d] 56)).alloc (.cells #[.slice B c d] 56)) (some ⟨w.heap.size + 1 + 1, 0, none⟩) 1 [.slice B c d] := by
  have h := Vals.made ((w.alloc (.cells #[.int .i64 r, .int .i64 c, .slice (some ⟨b, off, none⟩) n cap] 100)).alloc (.cells #[.slice B c d] 56)) #[.slice B c d] 56 1 [.slice B c d] rfl rfl
  simpa using h
 have HN := Lib.hid hn
 clear hn
 gi_wp2_with fail
 refine ⟨trivial, (callsIn_wide.2 (vec_large _ 1 1 [.slice B c d] _ (by exact HV) (by omega) (by simp))).mono ?_⟩
 rintro e w1 ⟨rfl, k, rfl⟩
 rw [HA.out]
 gi_wp2_with fail
 refine ⟨trivial, (callsIn_wide.2 (vec_Check r c _ n cap xs _ (by exact (((hx.alloc _).alloc _).alloc _).drewN _) (by omega))).mono ?_⟩
 rintro e w2 ⟨rfl, hb2⟩
 rw [hE]
 have f1 : w2.cell? ⟨w.heap.size + 1, 0, none⟩ = some (.slice B c d) := by
  rw [hb2.cell (p := ⟨w.heap.size + 1, 0, none⟩) (by simp)]
  show World.cell? (World.alloc _ _) _ = _
  rw [World.cell?_alloc_past _ _ _ (by simp), World.cell?_alloc_at _ _ _ _ (by simp)]; rfl
 have f2 : w2.cell? ⟨w.heap.size, 1, none⟩ = some (.int .i64 c) := by
  rw [hb2.cell (p := ⟨w.heap.size, 1, none⟩) (by simp; omega)]
  show World.cell? (World.alloc _ _) _ = _
  rw [World.cell?_alloc_past _ _ _ (by simp; omega), World.cell?_alloc_past _ _ _ (by simp), World.cell?_alloc_at _ _ _ _ rfl]; rfl
 have f3 : w2.cell? ⟨w.heap.size, 2, none⟩ = some (.slice (some ⟨b, off, none⟩) n cap) := by
  rw [hb2.cell (p := ⟨w.heap.size, 2, none⟩) (by simp; omega)]
  show World.cell? (World.alloc _ _) _ = _
  rw [World.cell?_alloc_past _ _ _ (by simp; omega), World.cell?_alloc_past _ _ _ (by simp), World.cell?_alloc_at _ _ _ _ rfl]; rfl
 have hs2 : w.heap.size + 3 ≤ w2.heap.size := by have := hb2.size; simpa using this
 have f1' : (w2.alloc (.cells #[.slice none 0 0] 56)).cell? ⟨w.heap.size + 1, 0, none⟩ = some (.slice B c d) := by rw [World.cell?_alloc_past _ _ _ (by omega)]; exact f1
 have f2' : (w2.alloc (.cells #[.slice none 0 0] 56)).cell? ⟨w.heap.size, 1, none⟩ = some (.int .i64 c) := by rw [World.cell?_alloc_past _ _ _ (by omega)]; exact f2
 have f3' : (w2.alloc (.cells #[.slice none 0 0] 56)).cell? ⟨w.heap.size, 2, none⟩ = some (.slice (some ⟨b, off, none⟩) n cap) := by rw [World.cell?_alloc_past _ _ _ (by omega)]; exact f3
 gi_wp2_with fail
 refine ⟨trivial, (callsIn_wide.2 (chunk_made _ n cap c (by omega) _)).mono ?_⟩
 rintro e w3 ⟨rfl, rfl⟩
 gi_wp2_with fail
 have bO := Boxed.new w2 56 (.slice none 0 0)
 have hB2 : Below w.heap.size w w2 := Below.trans (B := w.heap.size) (by repeat (first | exact Below.refl _ _ | assumption | refine bel_drewN ?_ _ | refine Below.drew ?_ | (refine Below.alloc ?_ (by simp <;> omega) _) | (refine Below.setCell ?_ (by simp <;> omega) _))) (hb2.mono (by simp <;> omega))
 have hB4 : Below w.heap.size w (((w2.alloc (.cells #[.slice none 0 0] 56)).alloc (.cells #[.slice (some ⟨b, off, none⟩) n cap] 56)).alloc (.cells #[.int .i64 c] 3)) := ((hB2.alloc (by omega) _).alloc (by simp; omega) _).alloc (by simp; omega) _
 have g1 : (((w2.alloc (.cells #[.slice none 0 0] 56)).alloc (.cells #[.slice (some ⟨b, off, none⟩) n cap] 56)).alloc (.cells #[.int .i64 c] 3)).cell? ⟨w2.heap.size + 1, 0, none⟩ = some (.slice (some ⟨b, off, none⟩) n cap) := ((Blk.made' _ _ _ (by simp)).alloc _).cell 0
 have g2 : (((w2.alloc (.cells #[.slice none 0 0] 56)).alloc (.cells #[.slice (some ⟨b, off, none⟩) n cap] 56)).alloc (.cells #[.int .i64 c] 3)).cell? ⟨w2.heap.size + 2, 0, none⟩ = some (.int .i64 c) := (Blk.made' _ _ _ (by simp)).cell 0
 have g3 : (((w2.alloc (.cells #[.slice none 0 0] 56)).alloc (.cells #[.slice (some ⟨b, off, none⟩) n cap] 56)).alloc (.cells #[.int .i64 c] 3)).cell? ⟨w.heap.size + 1, 0, none⟩ = some (.slice B c d) := by
  rw [World.cell?_alloc_past _ _ _ (by simp; omega), World.cell?_alloc_past _ _ _ (by simp; omega)]; exact f1'
 have hW4 : (((w2.alloc (.cells #[.slice none 0 0] 56)).alloc (.cells #[.slice (some ⟨b, off, none⟩) n cap] 56)).alloc (.cells #[.int .i64 c] 3)).heap.size = w2.heap.size + 3 := by simp
 have HW4 := Lib.hid hW4
 clear hW4
 refine wpIn_rangeFunc_ownG rfl (by omega) (gf := 204) (lb := #[.pointer (some ⟨w2.heap.size + 1, 0, none⟩), .pointer (some ⟨w2.heap.size + 2, 0, none⟩)]) rfl trivial (enters_of Tryz.func204 (by kernel_rfl) rfl)
  (chunk_stops 4 (by omega) (w2.heap.size + 1) (w2.heap.size + 2) b off n cap c (by omega) (by omega) (by omega) hcap _ (by simp) (by simp) g1 g2) KC.trans (fun W l o o' hl _ _ _ => KC.put W l o' (by simp at hl; omega) (by simp at hl; omega)) (Below.refl _ _) (fun _ => rfl)
  (fun pre W => ((∃ v, Boxed W w2.heap.size 56 v ∧ W.ownsRow (w2.heap.size + 3) 3 1 v pre.length ((pre.map fun x : Piece n c => dotN ((xs.drop x.1.1).take x.1.2) ys x.1.2).map (Value.int .i64))) ∧ W.cell? ⟨w.heap.size + 1, 0, none⟩ = some (.slice B c d)) ∧ Below w.heap.size w W ∧ w2.heap.size + 3 ≤ W.heap.size)
  (fun _ _ _ => False) ?hI (fun _ _ _ _ _ hs _ _ => hs) ?h0 ?a1 ?assign ?body ?done ?stop
 case assign =>
  intro l x W K hK
  gi_wp2
  exact hK
 case hI =>
  rintro pre X Y row ⟨⟨⟨v, hbx, hr⟩, hc⟩, hB, hsz⟩ hg hrow
  rw [HW4.out] at hrow
  refine ⟨⟨⟨v, hbx.kept hg (fun e => ?_), hr.kept hg ?_⟩, ?_⟩, hB.grown hg (by omega) (fun k e => by have := (hrow k e).1; omega), Nat.le_trans hsz hg.size⟩
  ·have := (hrow _ e.symm).1; omega
  ·rcases hr.2 with ⟨rfl, _⟩ | ⟨g', cp, cur, rfl, _, hcc, _⟩
   ·exact .inl rfl
   ·refine .inr fun e => ?_
    obtain ⟨_, o, ho, hf⟩ := hrow g' e.symm
    rw [hcc] at ho; cases ho; cases hf
  ·rw [World.cell?_of_block (hg.block (w.heap.size + 1) (by omega) (fun e => by have := (hrow _ e.symm).1; omega))]; exact hc
 case h0 => exact ⟨⟨⟨.slice none 0 0, (bO.alloc _).alloc _, World.ownsRow_nil _ _ _ _⟩, g3⟩, hB4, by simp⟩
 case body =>
  rintro l pre x W ⟨⟨⟨v, hv, hrow⟩, hcv⟩, hB, hsz⟩ hlt
  have hc1 := hv.cell
  have hc1' : ∀ k o, ((W.drewN k).alloc o).cell? ⟨w2.heap.size, 0, none⟩ = some v := fun k o => (Boxed.alloc (show Boxed (W.drewN k) w2.heap.size 56 v from hv) o).cell
  obtain ⟨⟨px, pm⟩, hp1, hp2, hp3⟩ := x
  dsimp only at hp1 hp2 hp3
  have hrow' : Ints .i64 W (some ⟨b, off + px, none⟩) pm ((xs.drop px).take pm) := (hx.below hB).cut (i := px) (m := pm) hp1 (fun _ b' o' e => by injection e with e; injection e with e1 e2; subst e1; subst e2; rfl)
  have hv' : Ints .i64 W B c ys := hy.below hB
  have HD := Lib.hid (vec_dot (some ⟨b, off + px, none⟩) B pm pm d c _ _ W.drew hrow'.drew hv'.drew (by omega) (by omega))
  clear hrow' hv'
  gi_wp2
  dsimp only [pieceV]
  refine wpIn_region_of (by kernel_rfl) (by kernel_rfl) (by rintro ⟨_, _, h⟩; exact h) ?_
  refine wpAny_ready (rs := [0, 1, 2]) (by kernel_rfl) (by simp) (AllReady.cons rfl (fun K hK => ?_) (AllReady.cons rfl (fun K hK => ?_) (AllReady.cons rfl (fun K hK => ?_) AllReady.nil)))
  go_simp; refine hK _ _ ?_; clear hK K
  refine wpAny_ready (rs := [1, 2]) (by kernel_rfl) (by simp) (AllReady.cons rfl (fun K hK => ?_) (AllReady.cons rfl (fun K hK => ?_) AllReady.nil))
  go_simp; refine hK _ _ ?_; clear hK K
  refine wpAny_ready (rs := [2]) (by kernel_rfl) (by simp) (AllReady.cons rfl (fun K hK => ?_) AllReady.nil)
  go_simp; refine hK _ _ ?_; clear hK K
  refine wpAny_ready (rs := [3]) (by kernel_rfl) (by simp) (AllReady.cons rfl (fun K hK => ?_) AllReady.nil)
  go_simp; go_at_call 137; refine HD.out.mono ?_; rintro e w' ⟨rfl, kk, rfl⟩; go_simp; refine hK _ _ ?_; clear hK K
  refine wpAny_ready (rs := [4]) (by kernel_rfl) (by simp) (AllReady.cons rfl (fun K hK => ?_) AllReady.nil)
  go_simp; refine hK _ _ ?_; clear hK K
  rotate_left
  go_simp; refine hK _ _ ?_; clear hK K
  refine wpAny_ready (rs := [1]) (by kernel_rfl) (by simp) (AllReady.cons rfl (fun K hK => ?_) AllReady.nil)
  go_simp; refine hK _ _ ?_; clear hK K
  refine wpAny_ready (rs := [3]) (by kernel_rfl) (by simp) (AllReady.cons rfl (fun K hK => ?_) AllReady.nil)
  go_simp; go_at_call 137; refine HD.out.mono ?_; rintro e w' ⟨rfl, kk, rfl⟩; go_simp; refine hK _ _ ?_; clear hK K
  refine wpAny_ready (rs := [4]) (by kernel_rfl) (by simp) (AllReady.cons rfl (fun K hK => ?_) AllReady.nil)
  go_simp; refine hK _ _ ?_; clear hK K
  rotate_left
  go_simp; refine hK _ _ ?_; clear hK K
  refine wpAny_ready (rs := [0, 2]) (by kernel_rfl) (by simp) (AllReady.cons rfl (fun K hK => ?_) (AllReady.cons rfl (fun K hK => ?_) AllReady.nil))
  go_simp; refine hK _ _ ?_; clear hK K
  refine wpAny_ready (rs := [2]) (by kernel_rfl) (by simp) (AllReady.cons rfl (fun K hK => ?_) AllReady.nil)
  go_simp; refine hK _ _ ?_; clear hK K
  refine wpAny_ready (rs := [3]) (by kernel_rfl) (by simp) (AllReady.cons rfl (fun K hK => ?_) AllReady.nil)
  go_simp; go_at_call 137; refine HD.out.mono ?_; rintro e w' ⟨rfl, kk, rfl⟩; go_simp; refine hK _ _ ?_; clear hK K
  refine wpAny_ready (rs := [4]) (by kernel_rfl) (by simp) (AllReady.cons rfl (fun K hK => ?_) AllReady.nil)
  go_simp; refine hK _ _ ?_; clear hK K
  rotate_left
  go_simp; refine hK _ _ ?_; clear hK K
  refine wpAny_ready (rs := [0, 3]) (by kernel_rfl) (by simp) (AllReady.cons rfl (fun K hK => ?_) (AllReady.cons rfl (fun K hK => ?_) AllReady.nil))
  go_simp; refine hK _ _ ?_; clear hK K
  refine wpAny_ready (rs := [3]) (by kernel_rfl) (by simp) (AllReady.cons rfl (fun K hK => ?_) AllReady.nil)
  go_simp; go_at_call 137; refine HD.out.mono ?_; rintro e w' ⟨rfl, kk, rfl⟩; go_simp; refine hK _ _ ?_; clear hK K
  refine wpAny_ready (rs := [4]) (by kernel_rfl) (by simp) (AllReady.cons rfl (fun K hK => ?_) AllReady.nil)
  go_simp; refine hK _ _ ?_; clear hK K
  rotate_left
  go_simp; go_at_call 137; refine HD.out.mono ?_; rintro e w' ⟨rfl, kk, rfl⟩; go_simp; refine hK _ _ ?_; clear hK K
  refine wpAny_ready (rs := [0, 4]) (by kernel_rfl) (by simp) (AllReady.cons rfl (fun K hK => ?_) (AllReady.cons rfl (fun K hK => ?_) AllReady.nil))
  go_simp; refine hK _ _ ?_; clear hK K
  refine wpAny_ready (rs := [4]) (by kernel_rfl) (by simp) (AllReady.cons rfl (fun K hK => ?_) AllReady.nil)
  go_simp; refine hK _ _ ?_; clear hK K
  rotate_left
  go_simp; refine hK _ _ ?_; clear hK K
  refine wpAny_ready (rs := [0]) (by kernel_rfl) (by simp) (AllReady.cons rfl (fun K hK => ?_) AllReady.nil)
  go_simp; refine hK _ _ ?_; clear hK K
  rotate_left
  go_simp; refine hK _ _ ?_; clear hK K
  refine wpAny_ready (rs := [0, 1]) (by kernel_rfl) (by simp) (AllReady.cons rfl (fun K hK => ?_) (AllReady.cons rfl (fun K hK => ?_) AllReady.nil))
  go_simp; refine hK _ _ ?_; clear hK K
  refine wpAny_ready (rs := [1]) (by kernel_rfl) (by simp) (AllReady.cons rfl (fun K hK => ?_) AllReady.nil)
  go_simp; refine hK _ _ ?_; clear hK K
  refine wpAny_ready (rs := [3]) (by kernel_rfl) (by simp) (AllReady.cons rfl (fun K hK => ?_) AllReady.nil)
  go_simp; go_at_call 137; refine HD.out.mono ?_; rintro e w' ⟨rfl, kk, rfl⟩; go_simp; refine hK _ _ ?_; clear hK K
  refine wpAny_ready (rs := [4]) (by kernel_rfl) (by simp) (AllReady.cons rfl (fun K hK => ?_) AllReady.nil)
  go_simp; refine hK _ _ ?_; clear hK K
  rotate_left
  go_simp; refine hK _ _ ?_; clear hK K
  refine wpAny_ready (rs := [0, 3]) (by kernel_rfl) (by simp) (AllReady.cons rfl (fun K hK => ?_) (AllReady.cons rfl (fun K hK => ?_) AllReady.nil))
  go_simp; refine hK _ _ ?_; clear hK K
  refine wpAny_ready (rs := [3]) (by kernel_rfl) (by simp) (AllReady.cons rfl (fun K hK => ?_) AllReady.nil)
  go_simp; go_at_call 137; refine HD.out.mono ?_; rintro e w' ⟨rfl, kk, rfl⟩; go_simp; refine hK _ _ ?_; clear hK K
  refine wpAny_ready (rs := [4]) (by kernel_rfl) (by simp) (AllReady.cons rfl (fun K hK => ?_) AllReady.nil)
  go_simp; refine hK _ _ ?_; clear hK K
  rotate_left
  go_simp; go_at_call 137; refine HD.out.mono ?_; rintro e w' ⟨rfl, kk, rfl⟩; go_simp; refine hK _ _ ?_; clear hK K
  refine wpAny_ready (rs := [0, 4]) (by kernel_rfl) (by simp) (AllReady.cons rfl (fun K hK => ?_) (AllReady.cons rfl (fun K hK => ?_) AllReady.nil))
  go_simp; refine hK _ _ ?_; clear hK K
  refine wpAny_ready (rs := [4]) (by kernel_rfl) (by simp) (AllReady.cons rfl (fun K hK => ?_) AllReady.nil)
  go_simp; refine hK _ _ ?_; clear hK K
  rotate_left
  go_simp; refine hK _ _ ?_; clear hK K
  refine wpAny_ready (rs := [0]) (by kernel_rfl) (by simp) (AllReady.cons rfl (fun K hK => ?_) AllReady.nil)
  go_simp; refine hK _ _ ?_; clear hK K
  rotate_left
  all_goals
   refine wpAny_ready (rs := [5]) (by kernel_rfl) (by simp) (AllReady.cons rfl (fun K hK => ?_) AllReady.nil)
   refine step_append_lies _ (by rfl) _ _ _ (by rfl) (w2.heap.size + 3) 3 i0 _ 1 8 Tryz.underlying56 hi0 hz0 hz1 hz2 rfl (by omega) v pre.length _ (by rfl) (by exact own_allocD hrow (1 + kk) _) ⟨W.heap.size, 0, none⟩ 1 1 [.int .i64 (dotN ((xs.drop px).take pm) ys pm)] (by rfl) (by rfl) (World.news_of_block (cs := #[.int .i64 (dotN ((xs.drop px).take pm) ys pm)]) (t := 3) (fr := (0, 0)) (heap_alloc_new _ _)) (by simp [Value.oneCell']) (by omega) (by unfold maxLen; omega) (by omega) (by simp; omega) (W.heap.size + 1) (by simp) ?_
   intro gg cp w1 hown1 hgrow hat hlt1
   obtain ⟨hv1, hv2, hr2, hk2, hb3, hg3⟩ := boxed_push (n₀ := w.heap.size) hv (by omega) hrow hsz (by omega) hown1 hgrow
   have hc2 := hv1.cell
   have hf2 := hv1.frozen
   refine hK _ _ ?_; clear hK K
   refine wpAny_ready (rs := [6]) (by kernel_rfl) (by simp) (AllReady.cons rfl (fun K hK => ?_) AllReady.nil)
   go_simp; refine hK _ _ ?_; clear hK K
   refine wpAny_done (by kernel_rfl) ?_ _
   exact ⟨hk2 _, ⟨World.cell?_of_block (hg3 (w2.heap.size + 1) (by omega) (by omega)), World.cell?_of_block (hg3 (w2.heap.size + 2) (by omega) (by omega))⟩, ⟨⟨_, hv2, by rw [List.length_append, List.length_singleton, List.map_append, List.map_append]; exact hr2⟩, (World.cell?_of_block (hg3 (w.heap.size + 1) (by omega) (by omega))).trans hcv⟩, hB.trans hb3, Nat.le_trans hsz (hk2 0).size⟩
 case done =>
  rintro D zs W hD ⟨hcut, hle⟩ ⟨⟨⟨v, hv, hrow⟩, hcv⟩, hB, hsz⟩ hK
  have hc1 := hv.cell
  have hL := cut_mul hc.1 HN.out hcut hle xs ys hx.len
  have hlen : zs.length = r := by rw [← List.length_map (f := fun x : Piece n c => dotN ((xs.drop x.1.1).take x.1.2) ys x.1.2), hL, mulL_length]
  rw [hL, hlen] at hrow
  rw [HW4.out] at hD
  clear hcut hle hL hlen hcv
  gi_wp2
  refine ⟨by simp, .inl ⟨_, _, rfl, run_takeDeferred hK, ?_⟩⟩
  exact ⟨_, results_tmp2 rfl _ _ _, own_res (mulL_length xs r c ys) (own_base (ownsRow_putObj hrow _ hK rfl) (by omega)) (hB.trans (belowK_b (w := w) (Nat.le_refl _) W D _ _ (by omega) hK rfl rfl))⟩
 case stop =>
  rintro D c pre W _ _ h _
  exact h.elim
end Go.Proofs.YtgodgedhddngeaaGreatDoor
