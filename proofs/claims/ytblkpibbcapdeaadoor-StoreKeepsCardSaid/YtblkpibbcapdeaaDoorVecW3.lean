/- What vec.Mul computes: of each row its product with a list: a walk over slices.Chunk. -/
import Derived.Test.YtblkpibbcapdeaaDoorVecW
import Derived.Test.YtblkpibbcapdeaaDoorChunk
import Derived.Test.YtblkpibbcapdeaaDoorMem
import Derived.RegionTactic
namespace Go.Proofs.YtblkpibbcapdeaaDoor
open Go.RowKit Go.Shelf Pl

attribute [local go_sem] Oper.semAt_some

theorem cut_mul {n c r : Nat} {l : List (Piece n c)} (hc : 1 ≤ c) (hn : n = r * c) (hcut : Cut n c l) (hle : n ≤ l.length * c) (xs ys : List Int) (hx : xs.length = n) :
    (l.map fun x => dotN ((xs.drop x.1.1).take x.1.2) ys x.1.2) = mulL xs r c ys := by
  have h1 : l.length ≤ r := by
    rcases Nat.lt_or_ge r l.length with h | h
    · obtain ⟨e, _⟩ := hcut r h
      have := l[r].2
      omega
    · exact h
  have h2 : r ≤ l.length := by
    have h3 : r * c ≤ l.length * c := by rw [← hn]; exact hle
    exact Nat.le_of_mul_le_mul_right h3 (by omega)
  apply List.ext_getElem
  · rw [List.length_map, mulL_length]; omega
  · intro i hi hi'
    rw [List.length_map] at hi
    obtain ⟨e1, e2⟩ := hcut i hi
    have hb : (i + 1) * c ≤ n := by rw [hn]; exact Nat.mul_le_mul_right _ (by omega)
    have hb' : (i + 1) * c = i * c + c := Nat.succ_mul i c
    rw [List.getElem_map, e1, e2, show min c (n - i * c) = c by omega, rowL_cut xs c i (by omega)]
    simp [mulL, upto]

/-- 'out = append(out, ..)', out in a box: what the append's law leaves, behind the store into the box. -/
theorem boxed_push {W w1 : World} {n₀ n₁ B : Nat} {t e : TypeId} {v v' : Value} {k m j : Nat} {xs ys : List Value} {tmp : Obj}
    (hv : Boxed W B t v) (hB : B < n₁) (hrow : W.ownsRow n₁ e 1 v k xs) (hn₁ : n₁ ≤ W.heap.size) (hn₀ : n₀ ≤ B) (hown' : w1.ownsRow n₁ e 1 v' m ys) (hgrow : ((W.drewN j).alloc tmp).grownBy w1 v.ownBlock) :
    Boxed w1 B t v ∧ Boxed (w1.setCell ⟨B, 0, none⟩ v') B t v' ∧ (w1.setCell ⟨B, 0, none⟩ v').ownsRow n₁ e 1 v' m ys ∧ (∀ C, KeepsFrom C W (w1.setCell ⟨B, 0, none⟩ v')) ∧ Below n₀ W (w1.setCell ⟨B, 0, none⟩ v') ∧
      ∀ g, g < n₁ → g ≠ B → (w1.setCell ⟨B, 0, none⟩ v').heap[g]? = W.heap[g]? := by
  have hblk : ∀ g, g < W.heap.size → some g ≠ v.ownBlock → w1.heap[g]? = W.heap[g]? := fun g hg hne =>
    (hgrow.block g (by simp; omega) hne).trans (Below.heap_alloc (W.drewN j) tmp g hg)
  have hnr : ∀ g, g < n₁ → some g ≠ v.ownBlock := fun g hg h => by have := (hrow.lt g h.symm).1; omega
  have h1 : Boxed w1 B t v := (hblk B hv.lt (hnr B hB)).trans hv
  refine ⟨h1, h1.set v', own_far hown' hB v', fun C => ⟨?_, fun g o _ hg ho => ?_⟩, ?_, fun g hg hne => ?_⟩
  · have := hgrow.size
    simp at this
    simp; omega
  · have hlt := (Array.getElem?_eq_some_iff.1 hg).1
    have n1 : g ≠ B := by rintro rfl; rw [show W.heap[g]? = _ from hv] at hg; cases hg; cases ho
    have n2 : some g ≠ v.ownBlock := fun h => by
      rcases hrow.2 with ⟨rfl, _⟩ | ⟨g', cap, cur, rfl, _, hc, _⟩
      · simp [Value.ownBlock] at h
      · have : g = g' := by simpa [Value.ownBlock] using h
        subst this
        rw [hc] at hg; cases hg; cases ho
    exact ((heap_setCell_other w1 _ g v' n1).trans (hblk g hlt n2)).trans hg
  · exact (bel_grownD (Below.refl n₀ W) (by omega) hgrow (fun x hx => by have := (hrow.lt x hx).1; omega)).setCell hn₀ v'
  · exact (heap_setCell_other w1 _ g v' hne).trans (hblk g (by omega) (hnr g hg))

end Go.Proofs.YtblkpibbcapdeaaDoor
