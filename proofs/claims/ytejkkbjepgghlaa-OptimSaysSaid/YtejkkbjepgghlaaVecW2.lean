/- What the calls of package vec compute, further: multiples of lists, products with matrices: walks, each function once. -/
import Derived.Test.YtejkkbjepgghlaaVecW
namespace Go.Proofs.Ytejkkbjepgghlaa
open Go.RowKit Pl

end Go.Proofs.Ytejkkbjepgghlaa
