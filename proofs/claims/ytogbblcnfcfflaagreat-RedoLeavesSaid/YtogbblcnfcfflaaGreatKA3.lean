/- CALLS THAT THE KERNEL RAN: Build of none. No condition. -/
import Derived.Test.YtogbblcnfcfflaaGreatKA
set_option linter.all false
namespace Go.Proofs.YtogbblcnfcfflaaGreat
open Go Go.Am Go.Rec Go.Ino
set_option maxRecDepth 100000
theorem bld29:(cbL tab).pc 26 [.sl 0 0 [] .z,frV 29]=some (bldR 29 []):=fact_run fB 300 (by kernel_rfl)
end Go.Proofs.YtogbblcnfcfflaaGreat
