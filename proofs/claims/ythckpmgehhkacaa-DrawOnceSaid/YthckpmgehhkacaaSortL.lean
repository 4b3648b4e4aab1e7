/- slices.Sort at []int of a list of the call's own that holds each number below n once. -/
import Derived.Test.YthckpmgehhkacaaDrawW
namespace Go.Proofs.Ythckpmgehhkacaa
open Go.RowKit Pl

theorem sort_range {l : List Nat} {n : Nat} (h : l.Perm (List.range n)) : ((l.map fun (x : Nat) => (x : Int)).mergeSort fun x y => decide (x ≤ y)) = (List.range n).map fun (x : Nat) => (x : Int) := by
  refine List.Perm.eq_of_pairwise (le := fun a b : Int => a ≤ b) (fun a b _ _ h1 h2 => by omega) ?_ ?_ ((List.mergeSort_perm _ _).trans (h.map _))
  · have h := List.pairwise_mergeSort (le := fun x y : Int => decide (x ≤ y)) (fun a b c h1 h2 => by simp at h1 h2 ⊢; omega) (fun a b => by simp; omega) (l.map fun (x : Nat) => (x : Int))
    exact h.imp (fun h => by simpa using h)
  · rw [List.pairwise_map]
    exact List.pairwise_lt_range.imp (fun h => by omega)
/-- What slices.Sort does: the sorted list stands in the same slice; nothing below turns. -/
def SortC : Prop := ∀ (base g c n : Nat) (l : List Nat) (w : World), w.ownsRow base 3 1 (.slice (some ⟨g, 0, none⟩) n c) n (vN l) → l.Perm (List.range n) → n ≤ 1000 → base ≤ w.heap.size →
    Calls Try.prog 31 #[.slice (some ⟨g, 0, none⟩) n c] w fun e w' => e = .returned (.tuple #[]) ∧ w'.ownsRow base 3 1 (.slice (some ⟨g, 0, none⟩) n c) n (vN (List.range n)) ∧ Below base w w'
end Go.Proofs.Ythckpmgehhkacaa
