/- CALLS THAT THE KERNEL RAN: a form, a super block, inodes. No condition. -/
import Derived.Test.YtogbblcnfcfflaaGreatKA
set_option linter.all false
namespace Go.Proofs.YtogbblcnfcfflaaGreat
open Go Go.Am Go.Rec Go.Ino
set_option maxRecDepth 100000
theorem k_form:(cbL tab).pc 24 [.agg [.int .i64 64,.int .i64 8,.int .i64 64,.int .i64 8],.agg [.int .u64 1,.int .u64 2]]=some (.plain (.tup [.agg layD,.int .i64 0])):=fact_run (.nil tab) 300 (by kernel_rfl)
theorem k_super:(cbL tab).pc 25 [.agg layD]=some (.fresh 1 64 (encs u64A superW)):=fact_run (.nil tab) 300 (by kernel_rfl)
theorem k_w28:(cbL tab).pc 27 [dirV 28]=some (.plain (.tup [.sl 1 16 (encs u64A (dirW 28)) .ro,.int .i64 0])):=fact_run (.nil tab) 300 (by kernel_rfl)
theorem k_w29:(cbL tab).pc 27 [dirV 29]=some (.plain (.tup [.sl 1 16 (encs u64A (dirW 29)) .ro,.int .i64 0])):=fact_run (.nil tab) 300 (by kernel_rfl)
theorem k_w30:(cbL tab).pc 27 [dirV 30]=some (.plain (.tup [.sl 1 16 (encs u64A (dirW 30)) .ro,.int .i64 0])):=fact_run (.nil tab) 300 (by kernel_rfl)
theorem k_at0:(cbL tab).pc 11 [.agg layD,.int .i64 1]=some (.plain (.int .i64 576)):=fact_run (.nil tab) 300 (by kernel_rfl)
theorem k_at1:(cbL tab).pc 11 [.agg layD,.int .i64 2]=some (.plain (.int .i64 592)):=fact_run (.nil tab) 300 (by kernel_rfl)
theorem k_at2:(cbL tab).pc 11 [.agg layD,.int .i64 3]=some (.plain (.int .i64 608)):=fact_run (.nil tab) 300 (by kernel_rfl)
end Go.Proofs.YtogbblcnfcfflaaGreat
