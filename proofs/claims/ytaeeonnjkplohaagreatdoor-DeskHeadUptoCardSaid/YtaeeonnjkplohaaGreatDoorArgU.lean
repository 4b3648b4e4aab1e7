/- A record, a string that came in, opened: with what the second form's bound says of it. -/
import Derived.Test.YtaeeonnjkplohaaGreatDoorUpto
import Derived.Test.YtaeeonnjkplohaaGreatDoorRecW
import Derived.Test.YtaeeonnjkplohaaGreatDoorArgs
import Derived.ChangeMaps5
namespace Go.Proofs.YtaeeonnjkplohaaGreatDoor
open Go.ChangeShapes Go.WideShapes Go.ChangeAt Go.RowKit Pl

section
variable {H : Type} {enc : TypeId × Value → H} {w : World} {base : Nat} {sp : Nat → Bool} {held : Bool}
set_option maxRecDepth 100000 in
theorem arg_string_upto {r : Reach} {b : Nat} {v : Value} {d : DataW H} {p : List MemPlace} (hv : Value.okWide Tryz.prog w r b 9 v) (h : DataW.Trod enc Tryz.prog w base sp held 9 v d p) :
    ∃ s : ByteArray, v = .string s ∧ s.size + 1 ≤ Rows.uptoBulk d := by
  obtain ⟨s, rfl, rfl, _, _⟩ := ChangeMaps.open_string Tryz.underlying9 hv h
  refine ⟨s, rfl, ?_⟩
  simp only [Rows.uptoBulk, Array.length_toList]
  exact Nat.le_refl _
end
end Go.Proofs.YtaeeonnjkplohaaGreatDoor
