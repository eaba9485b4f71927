/- THE TABLE IS THE PROGRAM'S. No condition. -/
import Derived.Test.YtailfegmnkldoaaSFuns
import Derived.Test.YtailfegmnkldoaaCG2
import Derived.Test.YtailfegmnkldoaaAmTop
set_option linter.unusedSimpArgs false
set_option linter.unusedVariables false
set_option linter.unusedSectionVars false
namespace Go.Proofs.Ytailfegmnkldoaa
open Go Go.Am Go.Proofs
theorem tabOk : TabOk Try.prog tab := by
  intro f fi h
  unfold tab at h
  split at h
  · cases h; exact ⟨⟨Try.f3, 1, Try.func3, c3_ok⟩, fun g h => by cases h⟩
  · cases h; exact ⟨⟨Try.f10, 1, Try.func10, c10_ok⟩, fun g h => by cases h⟩
  · cases h; exact ⟨⟨Try.f11, 0, Try.func11, c11_ok⟩, fun g h => by cases h⟩
  · cases h; exact ⟨⟨Try.f12, 1, Try.func12, c12_ok⟩, fun g h => by cases h⟩
  · cases h; exact ⟨⟨Try.f13, 1, Try.func13, c13_ok⟩, fun g h => by cases h⟩
  · cases h; exact ⟨⟨Try.f14, 0, Try.func14, c14_ok⟩, fun g h => by cases h⟩
  · cases h; exact ⟨⟨Try.f15, 1, Try.func15, c15_ok⟩, fun g h => by cases h⟩
  · cases h; exact ⟨⟨Try.f16, 0, Try.func16, c16_ok⟩, fun g h => by cases h⟩
  · cases h; exact ⟨⟨Try.f17, 1, Try.func17, c17_ok⟩, fun g h => by cases h⟩
  · cases h; exact ⟨⟨Try.f18, 0, Try.func18, c18_ok⟩, fun g h => by cases h⟩
  · cases h; exact ⟨⟨Try.f19, 0, Try.func19, c19_ok⟩, fun g h => by cases h⟩
  · cases h; exact ⟨⟨Try.f46, 0, Try.func46, c46_ok⟩, fun g h => by cases h⟩
  · cases h; exact ⟨⟨Try.f47, 0, Try.func47, c47_ok⟩, fun g h => by cases h⟩
  · cases h; exact ⟨⟨Try.f48, 0, Try.func48, c48_ok⟩, fun g h => by cases h⟩
  · cases h; exact ⟨⟨Try.f49, 3, Try.func49, c49_ok⟩, fun g h => by cases h⟩
  · cases h; exact ⟨⟨Try.f50, 1, Try.func50, c50_ok⟩, fun g h => by cases h⟩
  · cases h; exact ⟨⟨Try.f51, 1, Try.func51, c51_ok⟩, fun g h => by cases h⟩
  · cases h; exact ⟨⟨Try.f52, 0, Try.func52, c52_ok⟩, fun g h => by cases h⟩
  · cases h; exact ⟨⟨Try.f53, 0, Try.func53, c53_ok⟩, fun g h => by cases h⟩
  · cases h; exact ⟨⟨Try.f54, 1, Try.func54, c54_ok⟩, fun g h => by cases h⟩
  · cases h; exact ⟨⟨Try.f82, 0, Try.func82, c82_ok⟩, fun g h => by cases h⟩
  · cases h; exact ⟨⟨Try.f83, 0, Try.func83, c83_ok⟩, fun g h => by cases h⟩
  · cases h; exact ⟨⟨Try.f84, 0, Try.func84, c84_ok⟩, fun g h => by cases h⟩
  · cases h; exact ⟨⟨Try.f85, 1, Try.func85, c85_ok⟩, fun g h => by cases h; exact concOk⟩
  · cases h; exact ⟨⟨Try.f138, 0, Try.func138, c138_ok⟩, fun g h => by cases h⟩
  · cases h
end Go.Proofs.Ytailfegmnkldoaa
