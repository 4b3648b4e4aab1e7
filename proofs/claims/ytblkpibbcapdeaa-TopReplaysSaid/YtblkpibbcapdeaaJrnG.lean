/- The law JournalGoes holds of the given program for every input. No condition. -/
import Derived.Test.YtblkpibbcapdeaaRecS
import Derived.Test.YtblkpibbcapdeaaTrnG
namespace Go.Proofs.Ytblkpibbcapdeaa
open Go.ChangeShapes Go.WideShapes Go.ChangeAt Go.RowKit Pl

end Go.Proofs.Ytblkpibbcapdeaa
