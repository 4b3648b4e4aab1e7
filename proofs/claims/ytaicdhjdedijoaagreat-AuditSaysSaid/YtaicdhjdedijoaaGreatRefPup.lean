/- What the document's own text says is wrong with a pupil; numbers of pupils: walks, each function once. -/
import Derived.Test.YtaicdhjdedijoaaGreatPupW
namespace Go.Proofs.YtaicdhjdedijoaaGreat
open Go.RowKit Pl

end Go.Proofs.YtaicdhjdedijoaaGreat
