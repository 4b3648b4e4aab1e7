/- What the document's own text says a pupil's numbers are: a walk. -/
import Derived.Test.YtejkkbjepgghlaaPupFlat
namespace Go.Proofs.Ytejkkbjepgghlaa
open Go.RowKit Pl

end Go.Proofs.Ytejkkbjepgghlaa
