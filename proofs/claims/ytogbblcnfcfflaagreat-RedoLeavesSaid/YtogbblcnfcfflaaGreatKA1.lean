/- CALLS THAT THE KERNEL RAN: Build of four pairs. No condition. -/
import Derived.Test.YtogbblcnfcfflaaGreatKA
set_option linter.all false
namespace Go.Proofs.YtogbblcnfcfflaaGreat
open Go Go.Am Go.Rec Go.Ino
set_option maxRecDepth 100000
theorem bld4:(cbL tab).pc 26 [.sl 2 4 (encs u64A prs4) .ro,frV 28]=some (bldR 28 prs4):=fact_run fB 300 (by kernel_rfl)
end Go.Proofs.YtogbblcnfcfflaaGreat
