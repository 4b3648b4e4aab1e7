/- The second form of a statement: what the bound on what comes in gives; the step from a law's walk to its row. -/
import Derived.Test.YtaeeonnjkplohaaGreatDoorArgs
import Derived.Deep.CondSized
namespace Go.Proofs.YtaeeonnjkplohaaGreatDoor
open Go.ChangeShapes Go.WideShapes Go.ChangeAt Go.RowKit Pl

theorem bulk_bound {H : Type} {l : List (DataW H)} (hk : Rows.uptoSmall H l = true) : Rows.uptoBulkAll l ≤ 1048576 := of_decide_eq_true hk

section
variable {H : Type} {enc : TypeId × Value → H} {w : World} {base : Nat} {sp : Nat → Bool} {held : Bool}
end

end Go.Proofs.YtaeeonnjkplohaaGreatDoor
