/- The law JournalGoes holds of the given program for every input. No condition. -/
import Derived.Test.YtcfmjpcbiomdbaaRecS
import Derived.Test.YtcfmjpcbiomdbaaTrnG
namespace Go.Proofs.Ytcfmjpcbiomdbaa
open Go.ChangeShapes Go.WideShapes Go.ChangeAt Go.RowKit Pl

end Go.Proofs.Ytcfmjpcbiomdbaa
