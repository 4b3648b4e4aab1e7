/- What pupil.Shape makes of a row of numbers: a pupil, its numbers its own. A walk. -/
import Derived.Test.YtblkpibbcapdeaaDoorPupW
namespace Go.Proofs.YtblkpibbcapdeaaDoor
open Go.RowKit Pl

/-- Nothing that was there has changed, but for block g. -/
structure But (g : Nat) (w w' : World) : Prop where
  os : w'.os = w.os
  tape : w'.tape = w.tape
  output : w'.output = w.output
  size : w.heap.size ≤ w'.heap.size
  block : ∀ k, k < w.heap.size → k ≠ g → w'.heap[k]? = w.heap[k]?
section
variable {w w' : World} {g : Nat}
theorem But.below {B : Nat} (h : But g w w') (hB : B ≤ g) (hB' : B ≤ w.heap.size) : Below B w w' := ⟨h.os, h.tape, h.output, h.size, fun k hk => h.block k (by omega) (by omega)⟩
theorem Blk.but {k : Nat} {t : TypeId} {cs : Array Value} (h : Blk w k t cs) (hb : But g w w') (hne : k ≠ g) : Blk w' k t cs := (hb.block k h.lt hne).trans h
theorem own_keep {base : Nat} {e : TypeId} {size : Nat} {v : Value} {n : Nat} {xs : List Value} (h : w.ownsRow base e size v n xs) (hk : ∀ k, v.ownBlock = some k → w'.heap[k]? = w.heap[k]?) : w'.ownsRow base e size v n xs := by
  refine ⟨h.1, ?_⟩
  rcases h.2 with hn | ⟨g, cap, cur, rfl, hg, hc, rest⟩
  · exact .inl hn
  · exact .inr ⟨g, cap, cur, rfl, hg, (hk g rfl).trans hc, rest⟩
theorem own_but {base : Nat} {e : TypeId} {size : Nat} {v : Value} {n : Nat} {xs : List Value} (h : w.ownsRow base e size v n xs) (hb : But g w w') (hg : g < base) : w'.ownsRow base e size v n xs :=
  own_keep h fun k hk => hb.block k (h.lt k hk).2 (by have := (h.lt k hk).1; omega)
end

/-- What take leaves: k numbers of its own, and the box holding nv; the world behind it under one name. -/
def TookO (w : World) (g k : Nat) (xs : List Int) (nv : Value) (e : Ending) (w' : World) : Prop :=
  ∃ A' c', e = .returned (.slice A' k c') ∧ w'.ownsRow w.heap.size 3 1 (.slice A' k c') k (xs.map (.int .i64)) ∧ But g w w' ∧ Blk w' g 22 #[nv]
theorem Took.o {w : World} {g k : Nat} {xs : List Int} {v nv : Value} {e : Ending} {w' : World} (hg : Blk w g 22 #[v]) (h : Took w g k xs nv e w') : TookO w g k xs nv e w' := by
  obtain ⟨A', c', w1, rfl, ho, hb, rfl⟩ := h
  refine ⟨A', c', rfl, own_far ho hg.lt nv, ⟨hb.os, hb.tape, hb.output, ?_, fun k hk hne => ?_⟩, (hg.below hb hg.lt).put 0 nv⟩
  · simpa [World.setCell] using hb.size
  · rw [heap_setCell_other w1 ⟨g, 0, none⟩ k nv hne]
    exact hb.block k hk

theorem sliced_rest {w : World} {A : Option Addr} {n c k : Nat} {xs : List Int} (hx : Ints .i64 w A n xs) (hc : n ≤ c) (hk : k ≤ n) : ∃ A' n' c', sliced A k n c 1 = .slice A' n' c' ∧ n = n' + k ∧ n' ≤ c' ∧ Ints .i64 w A' n' (xs.drop k) := by
  by_cases h : c = k
  · subst h
    obtain rfl : c = n := by omega
    refine ⟨A, 0, 0, by simp [sliced], by omega, by omega, ?_⟩
    rw [List.drop_of_length_le (by rw [hx.len]; omega)]
    exact Ints.nil _ _ _
  · refine ⟨A.map (·.add k), n - k, c - k, by simp [sliced, h], by omega, by omega, ?_⟩
    have h2 := hx.cut (i := k) (m := n - k) (by omega) (A' := A.map (·.add k)) (fun _ b off e => by rw [e]; simp [Go.WideShapes.add_plain])
    rwa [List.take_of_length_le (by rw [List.length_drop, hx.len]; omega)] at h2

/-- A pupil's data. -/
structure Pup where
  (r1 c1 : Int) (a1 : List Int) (r2 c2 : Int) (a2 b1 b2 : List Int)
def Pup.zero : Pup := ⟨0, 0, [], 0, 0, [], [], []⟩
/-- A pupil beside an error, its lists the call's own. -/
def PupOwn (w : World) (P : Pup) (x : Int) (e : Ending) (w' : World) : Prop :=
  ∃ A1 k1 A2 k2 B1 d1 B2 d2, e = .returned (.tuple #[.agg #[.int .i64 P.r1, .int .i64 P.c1, .slice A1 P.a1.length k1, .int .i64 P.r2, .int .i64 P.c2, .slice A2 P.a2.length k2, .slice B1 P.b1.length d1, .slice B2 P.b2.length d2], .int .i64 x]) ∧
    w'.ownsRow w.heap.size 3 1 (.slice A1 P.a1.length k1) P.a1.length (P.a1.map (.int .i64)) ∧ w'.ownsRow w.heap.size 3 1 (.slice A2 P.a2.length k2) P.a2.length (P.a2.map (.int .i64)) ∧
    w'.ownsRow w.heap.size 3 1 (.slice B1 P.b1.length d1) P.b1.length (P.b1.map (.int .i64)) ∧ w'.ownsRow w.heap.size 3 1 (.slice B2 P.b2.length d2) P.b2.length (P.b2.map (.int .i64)) ∧ Below w.heap.size w w'
theorem PupOwn.none {w w' : World} {x : Int} {e : Ending} (he : e = .returned (.tuple #[.agg #[.int .i64 0, .int .i64 0, .slice none 0 0, .int .i64 0, .int .i64 0, .slice none 0 0, .slice none 0 0, .slice none 0 0], .int .i64 x])) (hb : Below w.heap.size w w') : PupOwn w .zero x e w' :=
  ⟨_, _, _, _, _, _, _, _, he, World.ownsRow_nil _ _ _ _, World.ownsRow_nil _ _ _ _, World.ownsRow_nil _ _ _ _, World.ownsRow_nil _ _ _ _, hb⟩

def shapeE (i h o : Int) (xs : List Int) : Int := if !sideB i || !sideB h || !sideB o then 1 else if (xs.length : Int) ≠ sizeP i h o ∨ okL xs = false then 5 else 0
/-- A row of numbers as a pupil. -/
def shapeP (i h o : Nat) (xs : List Int) : Pup :=
  ⟨h, i, xs.take (h * i), o, h, (xs.drop (h * i + h)).take (o * h), (xs.drop (h * i)).take h, (xs.drop (h * i + h + o * h)).take o⟩
def shapeO (i h o : Int) (xs : List Int) : Pup := if shapeE i h o xs = 0 then shapeP i.toNat h.toNat o.toNat xs else .zero

end Go.Proofs.YtblkpibbcapdeaaDoor
