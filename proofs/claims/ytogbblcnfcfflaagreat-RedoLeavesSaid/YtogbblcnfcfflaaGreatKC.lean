/- CALLS THAT THE KERNEL RAN: the check of a redo. No condition. -/
import Derived.Test.YtogbblcnfcfflaaGreatKA
set_option linter.all false
namespace Go.Proofs.YtogbblcnfcfflaaGreat
open Go Go.Am Go.Rec Go.Ino
set_option maxRecDepth 100000
theorem k_check:(cbL tab).pc 36 [.agg layD,r20]=some (.plain (.int .i64 0)):=fact_run (.nil tab) 300 (by kernel_rfl)
end Go.Proofs.YtogbblcnfcfflaaGreat
