/- THE TABLE IS THE PROGRAM'S. No condition. -/
import Derived.Test.YtjlgpfolnhilfaaSFuns
import Derived.Test.YtjlgpfolnhilfaaAmCall
set_option linter.unusedSimpArgs false
set_option linter.unusedVariables false
set_option linter.unusedSectionVars false
namespace Go.Proofs.Ytjlgpfolnhilfaa
open Go Go.Am Go.Proofs
theorem tabOk : TabOk Try.prog tab := by
  intro f fi h
  unfold tab at h
  split at h
  · cases h; exact ⟨Try.f4, 1, Try.func4, c4_ok⟩
  · cases h; exact ⟨Try.f5, 1, Try.func5, c5_ok⟩
  · cases h; exact ⟨Try.f6, 1, Try.func6, c6_ok⟩
  · cases h; exact ⟨Try.f7, 1, Try.func7, c7_ok⟩
  · cases h; exact ⟨Try.f8, 1, Try.func8, c8_ok⟩
  · cases h; exact ⟨Try.f19, 1, Try.func19, c19_ok⟩
  · cases h; exact ⟨Try.f20, 1, Try.func20, c20_ok⟩
  · cases h; exact ⟨Try.f21, 1, Try.func21, c21_ok⟩
  · cases h; exact ⟨Try.f22, 1, Try.func22, c22_ok⟩
  · cases h; exact ⟨Try.f23, 1, Try.func23, c23_ok⟩
  · cases h; exact ⟨Try.f24, 1, Try.func24, c24_ok⟩
  · cases h; exact ⟨Try.f25, 1, Try.func25, c25_ok⟩
  · cases h; exact ⟨Try.f26, 1, Try.func26, c26_ok⟩
  · cases h; exact ⟨Try.f27, 1, Try.func27, c27_ok⟩
  · cases h; exact ⟨Try.f28, 1, Try.func28, c28_ok⟩
  · cases h; exact ⟨Try.f29, 1, Try.func29, c29_ok⟩
  · cases h; exact ⟨Try.f30, 1, Try.func30, c30_ok⟩
  · cases h; exact ⟨Try.f31, 1, Try.func31, c31_ok⟩
  · cases h; exact ⟨Try.f32, 1, Try.func32, c32_ok⟩
  · cases h; exact ⟨Try.f33, 0, Try.func33, c33_ok⟩
  · cases h; exact ⟨Try.f34, 1, Try.func34, c34_ok⟩
  · cases h; exact ⟨Try.f35, 1, Try.func35, c35_ok⟩
  · cases h; exact ⟨Try.f36, 1, Try.func36, c36_ok⟩
  · cases h; exact ⟨Try.f37, 1, Try.func37, c37_ok⟩
  · cases h; exact ⟨Try.f38, 1, Try.func38, c38_ok⟩
  · cases h; exact ⟨Try.f48, 1, Try.func48, c48_ok⟩
  · cases h; exact ⟨Try.f49, 1, Try.func49, c49_ok⟩
  · cases h; exact ⟨Try.f50, 1, Try.func50, c50_ok⟩
  · cases h; exact ⟨Try.f51, 1, Try.func51, c51_ok⟩
  · cases h; exact ⟨Try.f52, 3, Try.func52, c52_ok⟩
  · cases h; exact ⟨Try.f53, 2, Try.func53, c53_ok⟩
  · cases h; exact ⟨Try.f54, 1, Try.func54, c54_ok⟩
  · cases h; exact ⟨Try.f55, 1, Try.func55, c55_ok⟩
  · cases h; exact ⟨Try.f56, 3, Try.func56, c56_ok⟩
  · cases h; exact ⟨Try.f57, 1, Try.func57, c57_ok⟩
  · cases h; exact ⟨Try.f58, 1, Try.func58, c58_ok⟩
  · cases h; exact ⟨Try.f59, 1, Try.func59, c59_ok⟩
  · cases h; exact ⟨Try.f60, 1, Try.func60, c60_ok⟩
  · cases h; exact ⟨Try.f61, 3, Try.func61, c61_ok⟩
  · cases h; exact ⟨Try.f62, 1, Try.func62, c62_ok⟩
  · cases h; exact ⟨Try.f63, 3, Try.func63, c63_ok⟩
  · cases h; exact ⟨Try.f64, 1, Try.func64, c64_ok⟩
  · cases h; exact ⟨Try.f65, 1, Try.func65, c65_ok⟩
  · cases h; exact ⟨Try.f66, 1, Try.func66, c66_ok⟩
  · cases h; exact ⟨Try.f67, 1, Try.func67, c67_ok⟩
  · cases h; exact ⟨Try.f68, 1, Try.func68, c68_ok⟩
  · cases h; exact ⟨Try.f69, 3, Try.func69, c69_ok⟩
  · cases h; exact ⟨Try.f70, 3, Try.func70, c70_ok⟩
  · cases h; exact ⟨Try.f71, 3, Try.func71, c71_ok⟩
  · cases h; exact ⟨Try.f72, 3, Try.func72, c72_ok⟩
  · cases h; exact ⟨Try.f73, 1, Try.func73, c73_ok⟩
  · cases h; exact ⟨Try.f74, 1, Try.func74, c74_ok⟩
  · cases h; exact ⟨Try.f75, 1, Try.func75, c75_ok⟩
  · cases h; exact ⟨Try.f76, 1, Try.func76, c76_ok⟩
  · cases h; exact ⟨Try.f77, 3, Try.func77, c77_ok⟩
  · cases h; exact ⟨Try.f82, 1, Try.func82, c82_ok⟩
  · cases h; exact ⟨Try.f83, 1, Try.func83, c83_ok⟩
  · cases h; exact ⟨Try.f84, 1, Try.func84, c84_ok⟩
  · cases h; exact ⟨Try.f85, 1, Try.func85, c85_ok⟩
  · cases h; exact ⟨Try.f86, 1, Try.func86, c86_ok⟩
  · cases h; exact ⟨Try.f87, 1, Try.func87, c87_ok⟩
  · cases h; exact ⟨Try.f88, 1, Try.func88, c88_ok⟩
  · cases h; exact ⟨Try.f91, 1, Try.func91, c91_ok⟩
  · cases h
end Go.Proofs.Ytjlgpfolnhilfaa
