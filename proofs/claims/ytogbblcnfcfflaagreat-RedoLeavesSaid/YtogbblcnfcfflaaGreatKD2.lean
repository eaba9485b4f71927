/- CALLS THAT THE KERNEL RAN: a node that is tidied. No condition. -/
import Derived.Test.YtogbblcnfcfflaaGreatKD1
set_option linter.all false
namespace Go.Proofs.YtogbblcnfcfflaaGreat
open Go Go.Am Go.Rec Go.Ino
set_option maxRecDepth 100000
theorem k_tidy4:(cbL tab).pc 112 [.sl 1 64 (encs u64A (nodeW prs4)) .ro]=some (.fval (.tup [.sl 0 0 [] .z,.int .i64 0])):=fact_run fO 300 (by kernel_rfl)
end Go.Proofs.YtogbblcnfcfflaaGreat
