/- CALLS THAT THE KERNEL RAN: Build of two pairs. No condition. -/
import Derived.Test.YtogbblcnfcfflaaGreatKA
set_option linter.all false
namespace Go.Proofs.YtogbblcnfcfflaaGreat
open Go Go.Am Go.Rec Go.Ino
set_option maxRecDepth 100000
end Go.Proofs.YtogbblcnfcfflaaGreat
