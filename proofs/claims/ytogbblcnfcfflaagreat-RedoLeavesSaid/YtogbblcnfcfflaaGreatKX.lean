/- CALLS THAT THE KERNEL RAN: words that are too few, a place that is none. No condition. -/
import Derived.Test.YtogbblcnfcfflaaGreatKW
import Derived.Test.YtogbblcnfcfflaaGreatQ1
set_option linter.all false
namespace Go.Proofs.YtogbblcnfcfflaaGreat
open Go Go.Am Go.Rec Go.Ino
set_option maxRecDepth 1000000
theorem k_again2:(cbL tab).pc 14 [.sl 1 64 (encs u64A superW) .ro,.agg layD,r20]=some (.fval (.tup [.sl 0 0 [] .z,.int .i64 2])):=fact_run factsW_ok 300 (by kernel_rfl)
theorem k_leaf:(cbL tab).pc 31 [.sl 1 4096 (encs u64A (W20 prs4)) .ro,.int .i64 320,.int .u64 5]=some (panJ 320):=fact_run factsW_ok 300 (by kernel_rfl)
end Go.Proofs.YtogbblcnfcfflaaGreat
