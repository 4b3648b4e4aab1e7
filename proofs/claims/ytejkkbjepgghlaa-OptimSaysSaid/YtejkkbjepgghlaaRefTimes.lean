/- What the document's own text computes of products with a matrix: a walk. -/
import Derived.Test.YtejkkbjepgghlaaRefLine
namespace Go.Proofs.Ytejkkbjepgghlaa
open Go.RowKit Pl

theorem own_below {w w' : World} {base : Nat} {e : TypeId} {size : Nat} {v : Value} {n : Nat} {xs : List Value} (h : w.ownsRow base e size v n xs) (hb : Below w.heap.size w w') : w'.ownsRow base e size v n xs := by
  refine ⟨h.1, ?_⟩
  rcases h.2 with hn | ⟨g, cap, cur, rfl, hg, hc, rest⟩
  · exact .inl hn
  · exact .inr ⟨g, cap, cur, rfl, hg, (hb.block g (Array.getElem?_eq_some_iff.1 hc).1).trans hc, rest⟩

/-- A slice of the call's own with numbers: the one result. -/
def Own1 (w : World) (xs : List Int) (e : Ending) (w' : World) : Prop :=
  ∃ A c, e = .returned (.slice A xs.length c) ∧ w'.ownsRow w.heap.size 3 1 (.slice A xs.length c) xs.length (xs.map (.int .i64)) ∧ Below w.heap.size w w'
theorem own_one {w w' : World} {xs : List Int} {v : Value} {n : Nat} (hl : xs.length = n) (h : w'.ownsRow w.heap.size 3 1 v n (xs.map (.int .i64))) (hb : Below w.heap.size w w') : Own1 w xs (.returned v) w' := by
  subst hl
  obtain ⟨A, c, rfl, _⟩ := own_ints h
  exact ⟨A, c, rfl, h, hb⟩



end Go.Proofs.Ytejkkbjepgghlaa
