/- works OF WALK COMES TO true, BY EVALUATION. No condition. -/
import Derived.Test.YtmogflndepihnaaDoorNW
set_option linter.unusedSimpArgs false
set_option linter.unusedVariables false
set_option linter.unusedSectionVars false
namespace Go.Proofs.YtmogflndepihnaaDoor
open Go Go.Am
set_option maxRecDepth 100000
theorem works17_ev : isTrueR ((cbs tab 400).pc 32 []) = true := by kernel_rfl
theorem works17_px (H : Heap) : pcx (cbL tab) 32 [] H = some (.plain (.bool true)) := pcx_N rfl (cbL_pc.2 ⟨400, isTrueR_eq works17_ev⟩)
end Go.Proofs.YtmogflndepihnaaDoor
