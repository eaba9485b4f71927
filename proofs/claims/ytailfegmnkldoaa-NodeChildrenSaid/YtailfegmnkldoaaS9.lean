/- THE WALK OF Swap. No condition but those stated. -/
import Derived.Test.YtailfegmnkldoaaS8
set_option linter.unusedSimpArgs false
set_option linter.unusedVariables false
set_option linter.unusedSectionVars false
namespace Go.Proofs.Ytailfegmnkldoaa
open Go Go.Am Go.Slots
set_option maxHeartbeats 2000000
set_option maxRecDepth 10000
end Go.Proofs.Ytailfegmnkldoaa
