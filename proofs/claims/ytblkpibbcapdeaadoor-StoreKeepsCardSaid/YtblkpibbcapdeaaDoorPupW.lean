/- What is wrong with a pupil: package pupil's Check, and the document's own text: walks, each function once. -/
import Derived.Test.YtblkpibbcapdeaaDoorVecW
import Derived.Test.YtblkpibbcapdeaaDoorSlW
import Derived.Test.YtblkpibbcapdeaaDoorMem
import Derived.Test.YtblkpibbcapdeaaDoorPl
import Derived.Test.YtblkpibbcapdeaaDoorVecAny
import Derived.Lib.SliceRun
import Derived.Lib.AppendZerosOnto
import Derived.BigRegion
namespace Go.Proofs.YtblkpibbcapdeaaDoor
open Go.RowKit Pl

end Go.Proofs.YtblkpibbcapdeaaDoor

/- Numbers of pupils, comparisons, slices.Clone: walks, each function once. -/
namespace Go.Proofs.YtblkpibbcapdeaaDoor
open Go.RowKit Pl

theorem mul_bd {a b : Int} (ha : 1 ≤ a ∧ a ≤ 4) (hb : 1 ≤ b ∧ b ≤ 5) : 1 ≤ a * b ∧ a * b ≤ 20 := by
  obtain ⟨h1, h2⟩ := ha
  have : a = 1 ∨ a = 2 ∨ a = 3 ∨ a = 4 := by omega
  rcases this with rfl | rfl | rfl | rfl <;> omega



end Go.Proofs.YtblkpibbcapdeaaDoor

/- slices.Grow of nil, slices.Concat over []int: walks, each function once. -/
namespace Go.Proofs.YtblkpibbcapdeaaDoor
open Go.RowKit Pl


/-- Nothing is appended where the source is nil. -/
theorem run_append_nothing {P : Program} {w : World} {base : Nat} {t ty e : TypeId} {i : TypeInfo} {size : Nat} (ht : P.underlying t = some (.slice e)) (hi : P.info? e = some i) {v : Value} {n : Nat} {xs : List Value} (hown : w.ownsRow base e size v n xs) (c : Nat) :
    (Builtin.append_ #[t, t] ty #[v, .slice none 0 c]).run P w = .ok v w := by
  rcases hown.2 with ⟨rfl, rfl⟩ | ⟨g, cap, cur, rfl, _, _, hnc, _⟩
  · simp [Builtin.append_, run_underlying ht, sizeOf, typeInfo, hi, Builtin.lenOf, Builtin.firstCells]
  · simp [Builtin.append_, run_underlying ht, sizeOf, typeInfo, hi, Builtin.lenOf, Builtin.firstCells, hnc, storeCells]

/-- The slices vs read as the lists ps. -/
structure Parts (w : World) (vs : List Value) (ps : List (List Int)) : Prop where
  len : ps.length = vs.length
  at_ : ∀ j, j < vs.length → ∃ A n c, vs[j]?.getD undef = .slice A n c ∧ Ints .i64 w A n (ps[j]?.getD [])
theorem Parts.below {w w' : World} {vs : List Value} {ps : List (List Int)} (h : Parts w vs ps) (hb : Below w.heap.size w w') : Parts w' vs ps :=
  ⟨h.len, fun j hj => by
    obtain ⟨A, n, c, e, hI⟩ := h.at_ j hj
    exact ⟨A, n, c, e, hI.below hb⟩⟩
/-- The first k lists, one behind the other. -/
def catN (ps : List (List Int)) (k : Nat) : List Int := (ps.take k).flatten
theorem catN_succ {ps : List (List Int)} {k : Nat} (h : k < ps.length) : catN ps (k + 1) = catN ps k ++ ps[k]?.getD [] := by
  unfold catN
  rw [List.take_succ_eq_append_getElem h, List.flatten_append, List.getElem?_eq_getElem h]
  simp
theorem catN_all (ps : List (List Int)) : catN ps ps.length = ps.flatten := by unfold catN; rw [List.take_of_length_le (Nat.le_refl _)]
theorem catN_le (ps : List (List Int)) (k : Nat) : (catN ps k).length ≤ ps.flatten.length := by
  unfold catN
  conv => rhs; rw [← List.take_append_drop k ps, List.flatten_append, List.length_append]
  omega

end Go.Proofs.YtblkpibbcapdeaaDoor

/- What pupil.Flat computes: a walk. -/
namespace Go.Proofs.YtblkpibbcapdeaaDoor
open Go.RowKit Pl

theorem flatten4 (a1 b1 a2 b2 : List Int) : [a1, b1, a2, b2].flatten = flatP a1 b1 a2 b2 := by simp [flatP]
/-- A pupil's numbers; no list where something is wrong. -/
def flatO (r1 c1 : Int) (a1 : List Int) (r2 c2 : Int) (a2 b1 b2 : List Int) : List Int := if pupE r1 c1 a1 r2 c2 a2 b1 b2 = 0 then flatP a1 b1 a2 b2 else []
theorem flatP_len40 {r1 c1 : Int} {a1 : List Int} {r2 c2 : Int} {a2 b1 b2 : List Int} (h : pupE r1 c1 a1 r2 c2 a2 b1 b2 = 0) : (flatP a1 b1 a2 b2).length ≤ 40 := by
  obtain ⟨h1, h2, h3, h4, h5, _, _⟩ := pupE_ok h
  obtain ⟨p1, p2, p3, _⟩ := matE_ok h1
  obtain ⟨q1, q2, q3, _⟩ := matE_ok h2
  have s1 := side_mul p1 p2
  have s2 := side_mul q1 q2
  rw [flatP_length]
  omega

end Go.Proofs.YtblkpibbcapdeaaDoor

/- What the document's own text says a pupil's numbers are: a walk. -/
namespace Go.Proofs.YtblkpibbcapdeaaDoor
open Go.RowKit Pl

end Go.Proofs.YtblkpibbcapdeaaDoor

/- Shape's closure take: a clone of the first numbers; the rest stays in the box. -/
namespace Go.Proofs.YtblkpibbcapdeaaDoor
open Go.RowKit Pl

/-- What take leaves: k numbers of its own, and the box holding nv. -/
def Took (w : World) (g k : Nat) (xs : List Int) (nv : Value) (e : Ending) (w' : World) : Prop :=
  ∃ A' c' w1, e = .returned (.slice A' k c') ∧ w1.ownsRow w.heap.size 3 1 (.slice A' k c') k (xs.map (.int .i64)) ∧ Below w.heap.size w w1 ∧ w' = w1.setCell ⟨g, 0, none⟩ nv

end Go.Proofs.YtblkpibbcapdeaaDoor

/- What the document's own text makes of a row of numbers: a pupil. A walk. -/
namespace Go.Proofs.YtblkpibbcapdeaaDoor
open Go.RowKit Pl

end Go.Proofs.YtblkpibbcapdeaaDoor
