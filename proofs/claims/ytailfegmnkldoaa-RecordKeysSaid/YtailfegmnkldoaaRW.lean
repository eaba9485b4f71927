/- works OF RECORD COMES TO true, BY EVALUATION. No condition. -/
import Derived.Test.YtailfegmnkldoaaAmSet
import Derived.Test.YtailfegmnkldoaaKFuns
import Derived.KernelRfl
set_option linter.unusedSimpArgs false
set_option linter.unusedVariables false
set_option linter.unusedSectionVars false
namespace Go.Proofs.Ytailfegmnkldoaa
open Go Go.Am
def isTrueR : Option PR → Bool
  | some (.plain (.bool true)) => true
  | _ => false
theorem isTrueR_eq {o : Option PR} (h : isTrueR o = true) : o = some (.plain (.bool true)) := by
  unfold isTrueR at h
  split at h
  · rfl
  · cases h
set_option maxRecDepth 100000
theorem works_ev : isTrueR ((cbs tab 60).pc 38 []) = true := by kernel_rfl
theorem works_px (H : Heap) : pcx (cbL tab) 38 [] H = some (.plain (.bool true)) := pcx_N rfl (cbL_pc.2 ⟨60, isTrueR_eq works_ev⟩)
end Go.Proofs.Ytailfegmnkldoaa
