/- What the calls of package vec compute, further: multiples of lists, products with matrices: walks, each function once. -/
import Derived.Test.YtgfidgepplfcbaaVecW
namespace Go.Proofs.Ytgfidgepplfcbaa
open Go.RowKit Pl

end Go.Proofs.Ytgfidgepplfcbaa
