/- CALLS THAT THE KERNEL RAN: a node. No condition. -/
import Derived.Test.YtogbblcnfcfflaaGreatKA
set_option linter.all false
namespace Go.Proofs.YtogbblcnfcfflaaGreat
open Go Go.Am Go.Rec Go.Ino
set_option maxRecDepth 100000
theorem k_of4:(cbL tab).pc 58 [.sl 1 64 (encs u64A (nodeW prs4)) .ro]=some (.fval (.tup [.agg [.int .i64 0,.int .i64 0,.int .u64 0,.int .u64 9223372036854775808,.int .i64 0,.sl 2 4 (encs u64A prs4) .ro],.int .i64 0])):=fact_run (.nil tab) 300 (by kernel_rfl)
theorem k_of0:(cbL tab).pc 58 [.sl 1 64 (encs u64A (nodeW [])) .ro]=some (.fval (.tup [.agg [.int .i64 0,.int .i64 0,.int .u64 0,.int .u64 9223372036854775808,.int .i64 0,.sl 0 0 [] .z],.int .i64 0])):=fact_run (.nil tab) 300 (by kernel_rfl)
theorem fO:Facts tab [⟨58,[.sl 1 64 (encs u64A (nodeW prs4)) .ro],.fval (.tup [.agg [.int .i64 0,.int .i64 0,.int .u64 0,.int .u64 9223372036854775808,.int .i64 0,.sl 2 4 (encs u64A prs4) .ro],.int .i64 0])⟩,⟨58,[.sl 1 64 (encs u64A (nodeW [])) .ro],.fval (.tup [.agg [.int .i64 0,.int .i64 0,.int .u64 0,.int .u64 9223372036854775808,.int .i64 0,.sl 0 0 [] .z],.int .i64 0])⟩]:= .cons rfl k_of4 (.cons rfl k_of0 (.nil _))
end Go.Proofs.YtogbblcnfcfflaaGreat
