/- CALLS THAT THE KERNEL RAN: directories. No condition. -/
import Derived.Test.YtogbblcnfcfflaaGreatKA
set_option linter.all false
namespace Go.Proofs.YtogbblcnfcfflaaGreat
open Go Go.Am Go.Rec Go.Ino
set_option maxRecDepth 100000
theorem k_dir28:(cbL tab).pc 111 [.sl 1 16 (encs u64A (dirW 28)) .ro]=some (.fval (.tup [dirV 28,.int .i64 0])):=fact_run (.nil tab) 300 (by kernel_rfl)
theorem k_dir29:(cbL tab).pc 111 [.sl 1 16 (encs u64A (dirW 29)) .ro]=some (.fval (.tup [dirV 29,.int .i64 0])):=fact_run (.nil tab) 300 (by kernel_rfl)
end Go.Proofs.YtogbblcnfcfflaaGreat
