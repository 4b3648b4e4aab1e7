/- What the calls of package fix and their like in the document's own text compute: walks, each function once. -/
import Derived.Test.YtblkpibbcapdeaaDoorRows
import Derived.Test.YtblkpibbcapdeaaDoorPl
import Derived.WalkKit
import Derived.WalkSpells
import Derived.WalkLawsBesides
import Derived.Deep.QuietTactic
import Derived.Lib.Hide
import Derived.BigQuiet
namespace Go.Proofs.YtblkpibbcapdeaaDoor
open Go.RowKit Pl

theorem ret_int {k : IntKind} {a b : Int} (h : a = b) : Ending.returned (.int k a) = .returned (.int k b) := by rw [h]
theorem ret_bool {a b : Bool} (h : a = b) : Ending.returned (.bool a) = .returned (.bool b) := by rw [h]

end Go.Proofs.YtblkpibbcapdeaaDoor
