/- THE TABLE IS THE PROGRAM'S. No condition. -/
import Derived.Test.YtncmflmjlocgiaaRFuns
import Derived.Test.YtncmflmjlocgiaaAmCall
set_option linter.unusedSimpArgs false
set_option linter.unusedVariables false
set_option linter.unusedSectionVars false
namespace Go.Proofs.Ytncmflmjlocgiaa
open Go Go.Am Go.Proofs
theorem tabOk : TabOk Try.prog tab := by
  intro f fi h
  unfold tab at h
  split at h
  · cases h; exact ⟨Try.f3, 1, Try.func3, c3_ok⟩
  · cases h; exact ⟨Try.f4, 1, Try.func4, c4_ok⟩
  · cases h; exact ⟨Try.f5, 1, Try.func5, c5_ok⟩
  · cases h; exact ⟨Try.f14, 1, Try.func14, c14_ok⟩
  · cases h; exact ⟨Try.f15, 1, Try.func15, c15_ok⟩
  · cases h; exact ⟨Try.f16, 1, Try.func16, c16_ok⟩
  · cases h; exact ⟨Try.f17, 1, Try.func17, c17_ok⟩
  · cases h; exact ⟨Try.f18, 1, Try.func18, c18_ok⟩
  · cases h; exact ⟨Try.f19, 1, Try.func19, c19_ok⟩
  · cases h; exact ⟨Try.f20, 1, Try.func20, c20_ok⟩
  · cases h; exact ⟨Try.f21, 3, Try.func21, c21_ok⟩
  · cases h; exact ⟨Try.f22, 1, Try.func22, c22_ok⟩
  · cases h; exact ⟨Try.f23, 1, Try.func23, c23_ok⟩
  · cases h; exact ⟨Try.f24, 1, Try.func24, c24_ok⟩
  · cases h; exact ⟨Try.f25, 1, Try.func25, c25_ok⟩
  · cases h; exact ⟨Try.f30, 1, Try.func30, c30_ok⟩
  · cases h; exact ⟨Try.f47, 1, Try.func47, c47_ok⟩
  · cases h; exact ⟨Try.f48, 2, Try.func48, c48_ok⟩
  · cases h; exact ⟨Try.f49, 1, Try.func49, c49_ok⟩
  · cases h; exact ⟨Try.f50, 1, Try.func50, c50_ok⟩
  · cases h; exact ⟨Try.f51, 1, Try.func51, c51_ok⟩
  · cases h; exact ⟨Try.f52, 1, Try.func52, c52_ok⟩
  · cases h; exact ⟨Try.f53, 1, Try.func53, c53_ok⟩
  · cases h; exact ⟨Try.f54, 1, Try.func54, c54_ok⟩
  · cases h; exact ⟨Try.f55, 1, Try.func55, c55_ok⟩
  · cases h; exact ⟨Try.f56, 1, Try.func56, c56_ok⟩
  · cases h; exact ⟨Try.f57, 0, Try.func57, c57_ok⟩
  · cases h; exact ⟨Try.f59, 1, Try.func59, c59_ok⟩
  · cases h; exact ⟨Try.f61, 1, Try.func61, c61_ok⟩
  · cases h; exact ⟨Try.f81, 1, Try.func81, c81_ok⟩
  · cases h; exact ⟨Try.f82, 1, Try.func82, c82_ok⟩
  · cases h; exact ⟨Try.f83, 1, Try.func83, c83_ok⟩
  · cases h; exact ⟨Try.f84, 1, Try.func84, c84_ok⟩
  · cases h; exact ⟨Try.f85, 1, Try.func85, c85_ok⟩
  · cases h; exact ⟨Try.f86, 1, Try.func86, c86_ok⟩
  · cases h; exact ⟨Try.f87, 1, Try.func87, c87_ok⟩
  · cases h; exact ⟨Try.f88, 1, Try.func88, c88_ok⟩
  · cases h; exact ⟨Try.f89, 1, Try.func89, c89_ok⟩
  · cases h; exact ⟨Try.f90, 1, Try.func90, c90_ok⟩
  · cases h; exact ⟨Try.f91, 1, Try.func91, c91_ok⟩
  · cases h; exact ⟨Try.f95, 1, Try.func95, c95_ok⟩
  · cases h; exact ⟨Try.f119, 1, Try.func119, c119_ok⟩
  · cases h; exact ⟨Try.f126, 1, Try.func126, c126_ok⟩
  · cases h; exact ⟨Try.f130, 1, Try.func130, c130_ok⟩
  · cases h; exact ⟨Try.f131, 1, Try.func131, c131_ok⟩
  · cases h; exact ⟨Try.f132, 1, Try.func132, c132_ok⟩
  · cases h; exact ⟨Try.f141, 1, Try.func141, c141_ok⟩
  · cases h; exact ⟨Try.f154, 1, Try.func154, c154_ok⟩
  · cases h; exact ⟨Try.f167, 1, Try.func167, c167_ok⟩
  · cases h
end Go.Proofs.Ytncmflmjlocgiaa
