/- What the document's own text makes of a row of numbers: a pupil. A walk. -/
import Derived.Test.YtejkkbjepgghlaaPupTake
import Derived.BigRegion
namespace Go.Proofs.Ytejkkbjepgghlaa
open Go.RowKit Pl

end Go.Proofs.Ytejkkbjepgghlaa
