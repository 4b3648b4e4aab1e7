/- What vec.Outer computes: a walk. -/
import Derived.Test.YtblkpibbcapdeaaDoorVecW
import Derived.Test.YtblkpibbcapdeaaDoorMem
import Derived.Deep.RegionLaw
import Derived.Test.YtblkpibbcapdeaaDoorVecW3
import Derived.Test.YtblkpibbcapdeaaDoorSlW
namespace Go.Proofs.YtblkpibbcapdeaaDoor
open Go.RowKit Pl

end Go.Proofs.YtblkpibbcapdeaaDoor

/- What vec.Mul, vec.Back and vec.Outer answer, right or wrong, and how the document's own text compares matrices: walks. -/
namespace Go.Proofs.YtblkpibbcapdeaaDoor
open Go.RowKit Pl


/-- The products, where nothing is wrong; else no list. -/
def mulO (r c : Int) (xs ys : List Int) : List Int := if matE r c xs = 0 ∧ (ys.length : Int) = c then mulL xs r.toNat c.toNat ys else []
def backO (r c : Int) (xs ys : List Int) : List Int := if matE r c xs = 0 ∧ (ys.length : Int) = r then backL xs r.toNat c.toNat ys else []
/-- A list beside an error, what lay untouched. -/
def ListRes (w : World) (xs : List Int) (x : Int) (e : Ending) (w' : World) : Prop :=
  ∃ A c, e = .returned (.tuple #[.slice A xs.length c, .int .i64 x]) ∧ Ints .i64 w' A xs.length xs ∧ Below w.heap.size w w'
theorem ListRes.of_own {w w' : World} {xs : List Int} {x : Int} {e : Ending} (h : OwnRes w xs x e w') : ListRes w xs x e w' := by
  obtain ⟨A, c, he, ho, hb⟩ := h
  exact ⟨A, c, he, Ints.of_own ho rfl, hb⟩
theorem ListRes.of_no {w w' : World} {x : Int} {e : Ending} (he : e = .returned (.tuple #[.slice none 0 0, .int .i64 x])) (hb : Below w.heap.size w w') : ListRes w [] x e w' := ⟨none, 0, he, Ints.nil _ _ _, hb⟩

theorem prodE_zero {r c : Int} {xs : List Int} {m k : Int} (h : prodE r c xs m k = 0) : matE r c xs = 0 ∧ m = k := by
  unfold prodE at h
  split at h
  · omega
  · split at h
    · rename_i h2; exact absurd h h2
    · split at h
      · omega
      · rename_i h2 h3
        exact ⟨by simpa using h2, by simpa using h3⟩


end Go.Proofs.YtblkpibbcapdeaaDoor
