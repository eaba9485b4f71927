/- THE TABLE IS THE PROGRAM'S. No condition. -/
import Derived.Test.YtmogflndepihnaaDoorNFuns
import Derived.Test.YtmogflndepihnaaDoorNC
import Derived.Test.YtmogflndepihnaaDoorAmTop
set_option linter.unusedSimpArgs false
set_option linter.unusedVariables false
set_option linter.unusedSectionVars false
namespace Go.Proofs.YtmogflndepihnaaDoor
open Go Go.Am Go.Proofs
theorem tabOk : TabOk Tryd.prog tab := by
  intro f fi h
  unfold tab at h
  split at h
  · cases h; exact ⟨⟨Tryd.f3, 1, Tryd.func3, c3_ok⟩, fun g h => by cases h⟩
  · cases h; exact ⟨⟨Tryd.f4, 1, Tryd.func4, c4_ok⟩, fun g h => by cases h⟩
  · cases h; exact ⟨⟨Tryd.f5, 1, Tryd.func5, c5_ok⟩, fun g h => by cases h⟩
  · cases h; exact ⟨⟨Tryd.f6, 1, Tryd.func6, c6_ok⟩, fun g h => by cases h⟩
  · cases h; exact ⟨⟨Tryd.f7, 1, Tryd.func7, c7_ok⟩, fun g h => by cases h⟩
  · cases h; exact ⟨⟨Tryd.f8, 1, Tryd.func8, c8_ok⟩, fun g h => by cases h⟩
  · cases h; exact ⟨⟨Tryd.f14, 1, Tryd.func14, c14_ok⟩, fun g h => by cases h⟩
  · cases h; exact ⟨⟨Tryd.f15, 1, Tryd.func15, c15_ok⟩, fun g h => by cases h⟩
  · cases h; exact ⟨⟨Tryd.f16, 1, Tryd.func16, c16_ok⟩, fun g h => by cases h⟩
  · cases h; exact ⟨⟨Tryd.f17, 1, Tryd.func17, c17_ok⟩, fun g h => by cases h⟩
  · cases h; exact ⟨⟨Tryd.f18, 1, Tryd.func18, c18_ok⟩, fun g h => by cases h⟩
  · cases h; exact ⟨⟨Tryd.f19, 1, Tryd.func19, c19_ok⟩, fun g h => by cases h⟩
  · cases h; exact ⟨⟨Tryd.f20, 1, Tryd.func20, c20_ok⟩, fun g h => by cases h⟩
  · cases h; exact ⟨⟨Tryd.f21, 0, Tryd.func21, c21_ok⟩, fun g h => by cases h⟩
  · cases h; exact ⟨⟨Tryd.f22, 1, Tryd.func22, c22_ok⟩, fun g h => by cases h⟩
  · cases h; exact ⟨⟨Tryd.f23, 1, Tryd.func23, c23_ok⟩, fun g h => by cases h⟩
  · cases h; exact ⟨⟨Tryd.f24, 1, Tryd.func24, c24_ok⟩, fun g h => by cases h⟩
  · cases h; exact ⟨⟨Tryd.f25, 1, Tryd.func25, c25_ok⟩, fun g h => by cases h⟩
  · cases h; exact ⟨⟨Tryd.f26, 1, Tryd.func26, c26_ok⟩, fun g h => by cases h⟩
  · cases h; exact ⟨⟨Tryd.f27, 1, Tryd.func27, c27_ok⟩, fun g h => by cases h⟩
  · cases h; exact ⟨⟨Tryd.f28, 1, Tryd.func28, c28_ok⟩, fun g h => by cases h⟩
  · cases h; exact ⟨⟨Tryd.f29, 1, Tryd.func29, c29_ok⟩, fun g h => by cases h⟩
  · cases h; exact ⟨⟨Tryd.f30, 1, Tryd.func30, c30_ok⟩, fun g h => by cases h⟩
  · cases h; exact ⟨⟨Tryd.f51, 1, Tryd.func51, c51_ok⟩, fun g h => by cases h⟩
  · cases h; exact ⟨⟨Tryd.f52, 1, Tryd.func52, c52_ok⟩, fun g h => by cases h⟩
  · cases h; exact ⟨⟨Tryd.f53, 1, Tryd.func53, c53_ok⟩, fun g h => by cases h⟩
  · cases h; exact ⟨⟨Tryd.f54, 1, Tryd.func54, c54_ok⟩, fun g h => by cases h⟩
  · cases h; exact ⟨⟨Tryd.f55, 1, Tryd.func55, c55_ok⟩, fun g h => by cases h⟩
  · cases h; exact ⟨⟨Tryd.f56, 1, Tryd.func56, c56_ok⟩, fun g h => by cases h⟩
  · cases h; exact ⟨⟨Tryd.f57, 0, Tryd.func57, c57_ok⟩, fun g h => by cases h⟩
  · cases h; exact ⟨⟨Tryd.f58, 1, Tryd.func58, c58_ok⟩, fun g h => by cases h⟩
  · cases h; exact ⟨⟨Tryd.f59, 3, Tryd.func59, c59_ok⟩, fun g h => by cases h⟩
  · cases h; exact ⟨⟨Tryd.f60, 1, Tryd.func60, c60_ok⟩, fun g h => by cases h⟩
  · cases h; exact ⟨⟨Tryd.f61, 1, Tryd.func61, c61_ok⟩, fun g h => by cases h⟩
  · cases h; exact ⟨⟨Tryd.f62, 1, Tryd.func62, c62_ok⟩, fun g h => by cases h⟩
  · cases h; exact ⟨⟨Tryd.f63, 1, Tryd.func63, c63_ok⟩, fun g h => by cases h; exact joinOk⟩
  · cases h; exact ⟨⟨Tryd.f64, 1, Tryd.func64, c64_ok⟩, fun g h => by cases h⟩
  · cases h; exact ⟨⟨Tryd.f78, 1, Tryd.func78, c78_ok⟩, fun g h => by cases h⟩
  · cases h; exact ⟨⟨Tryd.f79, 1, Tryd.func79, c79_ok⟩, fun g h => by cases h⟩
  · cases h; exact ⟨⟨Tryd.f80, 1, Tryd.func80, c80_ok⟩, fun g h => by cases h⟩
  · cases h; exact ⟨⟨Tryd.f81, 1, Tryd.func81, c81_ok⟩, fun g h => by cases h⟩
  · cases h; exact ⟨⟨Tryd.f82, 3, Tryd.func82, c82_ok⟩, fun g h => by cases h⟩
  · cases h; exact ⟨⟨Tryd.f83, 0, Tryd.func83, c83_ok⟩, fun g h => by cases h⟩
  · cases h; exact ⟨⟨Tryd.f88, 1, Tryd.func88, c88_ok⟩, fun g h => by cases h⟩
  · cases h; exact ⟨⟨Tryd.f90, 1, Tryd.func90, c90_ok⟩, fun g h => by cases h⟩
  · cases h; exact ⟨⟨Tryd.f93, 1, Tryd.func93, c93_ok⟩, fun g h => by cases h⟩
  · cases h
end Go.Proofs.YtmogflndepihnaaDoor
