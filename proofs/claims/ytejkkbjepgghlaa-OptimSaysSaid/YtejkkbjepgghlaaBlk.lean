/- A block that is known whole: what becomes of it. No program in sight. -/
import Derived.Test.YtejkkbjepgghlaaMem
import Derived.Laws.Rows
namespace Go.Proofs.Ytejkkbjepgghlaa
open Go.RowKit

/-- Block g holds just these cells, of type t; none may not be written. -/
def Blk (w : World) (g : Nat) (t : TypeId) (cs : Array Value) : Prop := w.heap[g]? = some (.cells cs t (0, 0))

section
variable {w w' : World} {g : Nat} {t : TypeId} {cs : Array Value}
theorem Blk.lt (h : Blk w g t cs) : g < w.heap.size := (Array.getElem?_eq_some_iff.1 h).1
theorem Blk.cell (h : Blk w g t cs) (i : Nat) : w.cell? ⟨g, i, none⟩ = cs[i]? := cell_of_row w g i cs t (0, 0) h
theorem Blk.frozen (h : Blk w g t cs) (i : Nat) : w.frozen? ⟨g, i, none⟩ = false := frozen_of_row w g i cs t h
theorem Blk.made (w : World) (t : TypeId) (cs : Array Value) : Blk (w.alloc (.cells cs t)) w.heap.size t cs := heap_alloc_new w _
theorem Blk.made' (w : World) (t : TypeId) (cs : Array Value) {g : Nat} (h : w.heap.size = g) : Blk (w.alloc (.cells cs t)) g t cs := by subst h; exact heap_alloc_new w _
theorem Blk.drewN (h : Blk w g t cs) (n : Nat) : Blk (w.drewN n) g t cs := h
theorem Blk.quiet (h : Blk w g t cs) (hq : Quiet w w') : Blk w' g t cs := by obtain ⟨k, rfl⟩ := hq; exact h
theorem Blk.below {B : Nat} (h : Blk w g t cs) (hb : Below B w w') (hg : g < B) : Blk w' g t cs := (hb.block g hg).trans h
theorem Blk.alloc (h : Blk w g t cs) (o : Obj) : Blk (w.alloc o) g t cs := h.below ((Below.refl w.heap.size w).alloc (Nat.le_refl _) o) h.lt
theorem Blk.put (h : Blk w g t cs) (i : Nat) (u : Value) : Blk (w.setCell ⟨g, i, none⟩ u) g t (cs.setIfInBounds i u) := heap_setCell_same w g i cs t u h
theorem Blk.far (h : Blk w g t cs) {p : Addr} (hp : g ≠ p.block) (u : Value) : Blk (w.setCell p u) g t cs := (heap_setCell_other w p g u hp).trans h
theorem Blk.grown {row : Option Nat} (h : Blk w g t cs) (hb : w.grownBy w' row) (hg : some g ≠ row) : Blk w' g t cs := (hb.block g h.lt hg).trans h
end
section
variable {a w w1 : World} {o : Obj} {k : Nat} {row : Option Nat}
theorem Blk.grownD {g : Nat} {t : TypeId} {cs : Array Value} (h : Blk w g t cs) (hg : ((w.drewN k).alloc o).grownBy w1 row) (hne : some g ≠ row) : Blk w1 g t cs := ((h.drewN k).alloc o).grown hg hne
theorem bel_grownD {B : Nat} (h : Below B a w) (hB : B ≤ w.heap.size) (hg : ((w.drewN k).alloc o).grownBy w1 row) (hr : ∀ x, row = some x → B ≤ x) : Below B a w1 :=
  Below.grown ((bel_drewN h k).alloc hB o) hg (by simp; exact Nat.le_succ_of_le hB) hr
theorem own_allocD {base : Nat} {e : TypeId} {size n : Nat} {v : Value} {xs : List Value} (h : w.ownsRow base e size v n xs) (k : Nat) (o : Obj) : ((w.drewN k).alloc o).ownsRow base e size v n xs := (own_drewN h k).alloc o
end
theorem own_far {w : World} {base : Nat} {e : TypeId} {size n : Nat} {v : Value} {xs : List Value} (h : w.ownsRow base e size v n xs) {p : Addr} (hp : p.block < base) (u : Value) : (w.setCell p u).ownsRow base e size v n xs := ownsRow_setCell_below h hp u
end Go.Proofs.Ytejkkbjepgghlaa
