/- THE CHAPTER'S ROWS: the kernel runs them, with what it ran before. No condition. -/
import Derived.Test.YtogbblcnfcfflaaGreatKA1
import Derived.Test.YtogbblcnfcfflaaGreatKA3
import Derived.Test.YtogbblcnfcfflaaGreatKA4
import Derived.Test.YtogbblcnfcfflaaGreatKB
import Derived.Test.YtogbblcnfcfflaaGreatKC
import Derived.Test.YtogbblcnfcfflaaGreatKD2
import Derived.Test.YtogbblcnfcfflaaGreatKD3
import Derived.Test.YtogbblcnfcfflaaGreatKD4
set_option linter.all false
namespace Go.Proofs.YtogbblcnfcfflaaGreat
open Go Go.Am Go.Rec Go.Ino
set_option maxRecDepth 1000000
def factsW:List Fact:=[⟨26,[.sl 2 4 (encs u64A prs4) .ro,frV 28],bldR 28 prs4⟩,⟨26,[.sl 0 0 [] .z,frV 29],bldR 29 []⟩,⟨26,[.sl 0 0 [] .z,frV 30],bldR 30 []⟩,⟨24,[.agg [.int .i64 64,.int .i64 8,.int .i64 64,.int .i64 8],.agg [.int .u64 1,.int .u64 2]],.plain (.tup [.agg layD,.int .i64 0])⟩,⟨25,[.agg layD],.fresh 1 64 (encs u64A superW)⟩,⟨27,[dirV 28],.plain (.tup [.sl 1 16 (encs u64A (dirW 28)) .ro,.int .i64 0])⟩,⟨27,[dirV 29],.plain (.tup [.sl 1 16 (encs u64A (dirW 29)) .ro,.int .i64 0])⟩,⟨27,[dirV 30],.plain (.tup [.sl 1 16 (encs u64A (dirW 30)) .ro,.int .i64 0])⟩,⟨36,[.agg layD,r20],.plain (.int .i64 0)⟩,⟨58,[.sl 1 64 (encs u64A (nodeW prs4)) .ro],.fval (.tup [.agg [.int .i64 0,.int .i64 0,.int .u64 0,.int .u64 9223372036854775808,.int .i64 0,.sl 2 4 (encs u64A prs4) .ro],.int .i64 0])⟩,⟨58,[.sl 1 64 (encs u64A (nodeW [])) .ro],.fval (.tup [.agg [.int .i64 0,.int .i64 0,.int .u64 0,.int .u64 9223372036854775808,.int .i64 0,.sl 0 0 [] .z],.int .i64 0])⟩,⟨112,[.sl 1 64 (encs u64A (nodeW prs4)) .ro],.fval (.tup [.sl 0 0 [] .z,.int .i64 0])⟩,⟨112,[.sl 1 64 (encs u64A (nodeW [])) .ro],.fval (.tup [.sl 0 0 [] .z,.int .i64 0])⟩,⟨111,[.sl 1 16 (encs u64A (dirW 28)) .ro],.fval (.tup [dirV 28,.int .i64 0])⟩,⟨111,[.sl 1 16 (encs u64A (dirW 29)) .ro],.fval (.tup [dirV 29,.int .i64 0])⟩]
theorem factsW_ok:Facts tab factsW:= .cons rfl bld4 (.cons rfl bld29 (.cons rfl bld30 (.cons rfl k_form (.cons rfl k_super (.cons rfl k_w28 (.cons rfl k_w29 (.cons rfl k_w30 (.cons rfl k_check (.cons rfl k_of4 (.cons rfl k_of0 (.cons rfl k_tidy4 (.cons rfl k_tidy0 (.cons rfl k_dir28 (.cons rfl k_dir29 (.nil _)))))))))))))))
def W20 (l:List Int):List Int:=superW++(List.replicate 512 0++(dirW 28++(dirW 29++(dirW 30++(List.replicate 1168 0++(nodeW l++(nodeW []++(nodeW []++List.replicate 2112 0))))))))
theorem k_again:(cbL tab).pc 14 [.sl 1 4096 (encs u64A (W20 prs4)) .ro,.agg layD,r20]=some (.fval (.tup [.sl 0 0 [] .z,.int .i64 0])):=fact_run factsW_ok 300 (by kernel_rfl)
end Go.Proofs.YtogbblcnfcfflaaGreat
