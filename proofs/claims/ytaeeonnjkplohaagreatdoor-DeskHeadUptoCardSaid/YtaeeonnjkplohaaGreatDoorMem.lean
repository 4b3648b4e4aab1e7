/- Words for memory: a slice that reads as a list of numbers; that what was there stays. No program in sight. -/
import Derived.Below
import Derived.Laws.OwnMore
import Derived.Deep.AppendLies
import Derived.Deep.Draws
import Derived.ChangeArms
import Derived.OpenShut
import Derived.Test.YtaeeonnjkplohaaGreatDoorPl
import Derived.Laws.Rows
namespace Go.Proofs.YtaeeonnjkplohaaGreatDoor
open Go.RowKit Pl

/-- The slice of n numbers at A reads as xs. -/
structure Ints (k : IntKind) (w : World) (A : Option Addr) (n : Nat) (xs : List Int) : Prop where
  len : xs.length = n
  cells : 0 < n → ∃ b off, A = some ⟨b, off, none⟩ ∧ b < w.heap.size ∧ ∀ j, j < n → w.cell? ⟨b, off + j, none⟩ = some (.int k (at0 xs j))

section
variable {k : IntKind} {w w' : World} {A : Option Addr} {n : Nat} {xs : List Int}
theorem Ints.keep (h : Ints k w A n xs) (hs : w.heap.size ≤ w'.heap.size) (hk : ∀ p : Addr, p.block < w.heap.size → w'.cell? p = w.cell? p) : Ints k w' A n xs :=
  ⟨h.len, fun hn => by
    obtain ⟨b, off, e, hb, hc⟩ := h.cells hn
    exact ⟨b, off, e, by omega, fun j hj => (hk ⟨b, off + j, none⟩ hb).trans (hc j hj)⟩⟩
theorem Ints.below (h : Ints k w A n xs) (hb : Below w.heap.size w w') : Ints k w' A n xs := h.keep hb.size fun _ hp => hb.cell hp
theorem Ints.drewN (h : Ints k w A n xs) (m : Nat) : Ints k (w.drewN m) A n xs := ⟨h.len, h.cells⟩
theorem Ints.drew (h : Ints k w A n xs) : Ints k w.drew A n xs := ⟨h.len, h.cells⟩
theorem Ints.alloc (h : Ints k w A n xs) (o : Obj) : Ints k (w.alloc o) A n xs := h.below ((Below.refl _ _).alloc (Nat.le_refl _) o)
theorem Ints.nil (k : IntKind) (w : World) (A : Option Addr) : Ints k w A 0 [] := ⟨rfl, fun h => absurd h (by omega)⟩
theorem Ints.of_own {base : Nat} {e : TypeId} {c : Nat} (h : w.ownsRow base e 1 (.slice A n c) n (xs.map (.int k))) (hl : xs.length = n) : Ints k w A n xs := by
  refine ⟨hl, fun hn => ?_⟩
  obtain ⟨g, cap, hv, _, hlt⟩ := h.form hn
  have hA : A = some ⟨g, 0, none⟩ := by injection hv
  subst hA
  refine ⟨g, 0, rfl, hlt, fun j hj => ?_⟩
  have hc := h.cells (g := g) rfl j (.int k (at0 xs j)) (by rw [List.getElem?_map, List.getElem?_eq_getElem (by omega), Option.map_some, at0_getElem _ _ (by omega)])
  rw [Go.WideShapes.add_plain] at hc
  exact hc
/-- A piece of a slice. -/
theorem Ints.cut (h : Ints k w A n xs) {i m : Nat} (hi : i + m ≤ n) {A' : Option Addr} (hA : 0 < m → ∀ b off, A = some ⟨b, off, none⟩ → A' = some ⟨b, off + i, none⟩) : Ints k w A' m ((xs.drop i).take m) := by
  refine ⟨by rw [List.length_take, List.length_drop, h.len]; omega, fun hm => ?_⟩
  obtain ⟨b, off, e, hb, hc⟩ := h.cells (by omega)
  refine ⟨b, off + i, hA hm b off e, hb, fun j hj => ?_⟩
  rw [Nat.add_assoc, hc (i + j) (by omega)]
  unfold at0
  rw [List.getElem?_take, if_pos hj, List.getElem?_drop]
end

theorem own_drewN {w : World} {base : Nat} {e : TypeId} {size : Nat} {v : Value} {n : Nat} {xs : List Value} (h : w.ownsRow base e size v n xs) (k : Nat) : (w.drewN k).ownsRow base e size v n xs := h
theorem own_drew {w : World} {base : Nat} {e : TypeId} {size : Nat} {v : Value} {n : Nat} {xs : List Value} (h : w.ownsRow base e size v n xs) : w.drew.ownsRow base e size v n xs := h
theorem bel_drewN {B : Nat} {a w : World} (h : Below B a w) (n : Nat) : Below B a (w.drewN n) := ⟨h.os, h.tape, h.output, h.size, h.block⟩
/-- Nothing but draws. -/
def Quiet (w w' : World) : Prop := ∃ k, w' = w.drewN k
theorem Quiet.refl (w : World) : Quiet w w := ⟨0, rfl⟩
theorem Quiet.drewN (w : World) (k : Nat) : Quiet w (w.drewN k) := ⟨k, rfl⟩
theorem Quiet.trans {a b c : World} (h : Quiet a b) (h' : Quiet b c) : Quiet a c := by
  obtain ⟨k, rfl⟩ := h
  obtain ⟨m, rfl⟩ := h'
  exact ⟨k + m, by rw [World.drewN_drewN]⟩
theorem Quiet.step {a b : World} (h : Quiet a b) (k : Nat) : Quiet a (b.drewN k) := h.trans ⟨k, rfl⟩
theorem Quiet.cell {a b : World} (h : Quiet a b) (p : Addr) : b.cell? p = a.cell? p := by
  obtain ⟨k, rfl⟩ := h
  rfl
theorem Quiet.size {a b : World} (h : Quiet a b) : b.heap.size = a.heap.size := by
  obtain ⟨k, rfl⟩ := h
  rfl
theorem Quiet.below {a b : World} (h : Quiet a b) : Below a.heap.size a b := by
  obtain ⟨k, rfl⟩ := h
  exact ⟨rfl, rfl, rfl, Nat.le_refl _, fun _ _ => rfl⟩
theorem Ints.quiet {k : IntKind} {w w' : World} {A : Option Addr} {n : Nat} {xs : List Int} (h : Ints k w A n xs) (hq : Quiet w w') : Ints k w' A n xs := h.below hq.below

theorem bel_trans {a b c : World} (h : Below a.heap.size a b) (h' : Below b.heap.size b c) : Below a.heap.size a c := h.trans (h'.mono h.size)
theorem own_ints {k : IntKind} {w : World} {base : Nat} {e : TypeId} {v : Value} {n : Nat} {xs : List Int} (h : w.ownsRow base e 1 v n (xs.map (.int k))) : ∃ A c, v = .slice A n c ∧ Ints k w A n xs := by
  have hl : xs.length = n := by have := h.1; rw [List.length_map] at this; omega
  have h' := h
  rcases h.2 with ⟨rfl, rfl⟩ | ⟨g, cap, cur, rfl, _⟩
  · exact ⟨none, 0, rfl, by rw [List.eq_nil_of_length_eq_zero hl]; exact Ints.nil _ _ _⟩
  · exact ⟨_, cap, rfl, Ints.of_own h' hl⟩
theorem own_quiet {w w' : World} {base : Nat} {e : TypeId} {size : Nat} {v : Value} {n : Nat} {xs : List Value} (h : w.ownsRow base e size v n xs) (hq : Quiet w w') : w'.ownsRow base e size v n xs := by
  obtain ⟨k, rfl⟩ := hq
  exact h
theorem Quiet.after {B : Nat} {a b c : World} (h : Below B a b) (hq : Quiet b c) : Below B a c := by
  obtain ⟨k, rfl⟩ := hq
  exact bel_drewN h k

theorem drewN_below {w : World} (k : Nat) : Below w.heap.size w (w.drewN k) := ⟨rfl, rfl, rfl, Nat.le_refl _, fun _ _ => rfl⟩

section
variable {H : Type} {enc : TypeId × Value → H} {P : Program} {w : World} {base : Nat} {sp : Nat → Bool} {held : Bool}
/-- A slice of integers that came in. -/
theorem open_Ints {t e : TypeId} {k : IntKind} {fuel : Nat} {cs : List Value} {x : DataW H × List MemPlace} (ht : P.underlying t = some (.slice e)) (he : P.underlying e = some (.int k)) (hC : P.cellsOf e = 1)
    (hsp : ∀ b, sp b = true) (h : DataW.trod enc P w base sp held fuel t cs = some x) :
    ∃ (A : Option Addr) (n c : Nat) (xs : List Int), cs = [.slice A n c] ∧ Ints k w A n xs ∧ n ≤ c ∧ c ≤ maxLen ∧ (∀ z ∈ xs, (Lit.int k z).wf = true) ∧
      ((x.1 = .nil ∧ n = 0) ∨ ∃ ys zs, x.1 = .slice ys zs ∧ ys.length = n ∧ ys.length + zs.length = c) := by
  rcases ChangeShapes.open_ints ht he hC h with ⟨rfl, rfl⟩ | ⟨a, len, cap, zs, rfl, _, hl, hm, hz, rfl, hc, hwf⟩
  · exact ⟨none, 0, 0, [], rfl, Ints.nil _ _ _, Nat.le_refl _, Nat.zero_le _, by simp, .inl ⟨rfl, rfl⟩⟩
  · rw [hsp, if_pos rfl] at hz
    refine ⟨some a, len, cap, zs.take len, rfl, ⟨by rw [List.length_take]; omega, fun hn => ?_⟩, hl, hm, fun z hz' => hwf z (List.mem_of_mem_take hz'), .inr ⟨_, _, rfl, ?_, ?_⟩⟩
    · obtain ⟨b, off, rfl, hc'⟩ := ints_at hc (by omega)
      refine ⟨b, off, rfl, World.block_lt_of_cell? _ _ (hc' 0 (by omega)), fun j hj => ?_⟩
      rw [hc' j (by omega)]
      unfold at0
      rw [List.getElem?_take, if_pos hj, List.getD_eq_getElem?_getD]
    · simp [ChangeShapes.lits]; omega
    · simp [ChangeShapes.lits]; omega
end
end Go.Proofs.YtaeeonnjkplohaaGreatDoor

/- A block that is known whole: what becomes of it. No program in sight. -/
namespace Go.Proofs.YtaeeonnjkplohaaGreatDoor
open Go.RowKit

/-- Block g holds just these cells, of type t; none may not be written. -/
def Blk (w : World) (g : Nat) (t : TypeId) (cs : Array Value) : Prop := w.heap[g]? = some (.cells cs t (0, 0))

section
variable {w w' : World} {g : Nat} {t : TypeId} {cs : Array Value}
theorem Blk.lt (h : Blk w g t cs) : g < w.heap.size := (Array.getElem?_eq_some_iff.1 h).1
theorem Blk.cell (h : Blk w g t cs) (i : Nat) : w.cell? ⟨g, i, none⟩ = cs[i]? := cell_of_row w g i cs t (0, 0) h
theorem Blk.frozen (h : Blk w g t cs) (i : Nat) : w.frozen? ⟨g, i, none⟩ = false := frozen_of_row w g i cs t h
theorem Blk.made (w : World) (t : TypeId) (cs : Array Value) : Blk (w.alloc (.cells cs t)) w.heap.size t cs := heap_alloc_new w _
theorem Blk.made' (w : World) (t : TypeId) (cs : Array Value) {g : Nat} (h : w.heap.size = g) : Blk (w.alloc (.cells cs t)) g t cs := by subst h; exact heap_alloc_new w _
theorem Blk.drewN (h : Blk w g t cs) (n : Nat) : Blk (w.drewN n) g t cs := h
theorem Blk.quiet (h : Blk w g t cs) (hq : Quiet w w') : Blk w' g t cs := by obtain ⟨k, rfl⟩ := hq; exact h
theorem Blk.below {B : Nat} (h : Blk w g t cs) (hb : Below B w w') (hg : g < B) : Blk w' g t cs := (hb.block g hg).trans h
theorem Blk.alloc (h : Blk w g t cs) (o : Obj) : Blk (w.alloc o) g t cs := h.below ((Below.refl w.heap.size w).alloc (Nat.le_refl _) o) h.lt
theorem Blk.put (h : Blk w g t cs) (i : Nat) (u : Value) : Blk (w.setCell ⟨g, i, none⟩ u) g t (cs.setIfInBounds i u) := heap_setCell_same w g i cs t u h
theorem Blk.far (h : Blk w g t cs) {p : Addr} (hp : g ≠ p.block) (u : Value) : Blk (w.setCell p u) g t cs := (heap_setCell_other w p g u hp).trans h
theorem Blk.grown {row : Option Nat} (h : Blk w g t cs) (hb : w.grownBy w' row) (hg : some g ≠ row) : Blk w' g t cs := (hb.block g h.lt hg).trans h
end
section
variable {a w w1 : World} {o : Obj} {k : Nat} {row : Option Nat}
theorem Blk.grownD {g : Nat} {t : TypeId} {cs : Array Value} (h : Blk w g t cs) (hg : ((w.drewN k).alloc o).grownBy w1 row) (hne : some g ≠ row) : Blk w1 g t cs := ((h.drewN k).alloc o).grown hg hne
theorem bel_grownD {B : Nat} (h : Below B a w) (hB : B ≤ w.heap.size) (hg : ((w.drewN k).alloc o).grownBy w1 row) (hr : ∀ x, row = some x → B ≤ x) : Below B a w1 :=
  Below.grown ((bel_drewN h k).alloc hB o) hg (by simp; exact Nat.le_succ_of_le hB) hr
theorem own_allocD {base : Nat} {e : TypeId} {size n : Nat} {v : Value} {xs : List Value} (h : w.ownsRow base e size v n xs) (k : Nat) (o : Obj) : ((w.drewN k).alloc o).ownsRow base e size v n xs := (own_drewN h k).alloc o
end
theorem own_far {w : World} {base : Nat} {e : TypeId} {size n : Nat} {v : Value} {xs : List Value} (h : w.ownsRow base e size v n xs) {p : Addr} (hp : p.block < base) (u : Value) : (w.setCell p u).ownsRow base e size v n xs := ownsRow_setCell_below h hp u
open Pl in
theorem Ints.made (w : World) (xs : List Int) (n : Nat) (hn : xs.length = n) (cs : Array Value) (hc : cs = (xs.map (Value.int .i64)).toArray) {g : Nat} (hg : w.heap.size = g) (t : TypeId) : Ints .i64 (w.alloc (.cells cs t)) (some ⟨g, 0, none⟩) n xs := by
  subst hc; subst hg
  refine ⟨hn, fun _ => ⟨w.heap.size, 0, rfl, by simp, fun j hj => ?_⟩⟩
  rw [(Blk.made w t _).cell (0 + j), Nat.zero_add, List.getElem?_toArray, List.getElem?_map, List.getElem?_eq_getElem (by omega), Option.map_some, at0_getElem _ _ (by omega)]
end Go.Proofs.YtaeeonnjkplohaaGreatDoor
