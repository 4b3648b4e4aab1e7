/- What the document's own text says is wrong with a pupil; numbers of pupils: walks, each function once. -/
import Derived.Test.YtcfmjpcbiomdbaaGreatPupW
namespace Go.Proofs.YtcfmjpcbiomdbaaGreat
open Go.RowKit Pl

end Go.Proofs.YtcfmjpcbiomdbaaGreat
