/- THE TABLE IS THE PROGRAM'S. No condition. -/
import Derived.Test.YtmogflndepihnaaDoorNFuns
import Derived.Test.YtmogflndepihnaaDoorNC
import Derived.Test.YtmogflndepihnaaDoorG2
import Derived.Test.YtmogflndepihnaaDoorAmTop
set_option linter.unusedSimpArgs false
set_option linter.unusedVariables false
set_option linter.unusedSectionVars false
namespace Go.Proofs.YtmogflndepihnaaDoor
open Go Go.Am Go.Proofs
theorem tabOk : TabOk Tryd.prog tab := by
  intro f fi h
  unfold tab at h
  split at h
  · cases h; exact ⟨⟨Tryd.f3, 1, Tryd.func3, c3_ok⟩, fun g h => by cases h⟩
  · cases h; exact ⟨⟨Tryd.f4, 1, Tryd.func4, c4_ok⟩, fun g h => by cases h⟩
  · cases h; exact ⟨⟨Tryd.f5, 1, Tryd.func5, c5_ok⟩, fun g h => by cases h⟩
  · cases h; exact ⟨⟨Tryd.f6, 1, Tryd.func6, c6_ok⟩, fun g h => by cases h⟩
  · cases h; exact ⟨⟨Tryd.f7, 1, Tryd.func7, c7_ok⟩, fun g h => by cases h⟩
  · cases h; exact ⟨⟨Tryd.f8, 1, Tryd.func8, c8_ok⟩, fun g h => by cases h⟩
  · cases h; exact ⟨⟨Tryd.f9, 1, Tryd.func9, c9_ok⟩, fun g h => by cases h⟩
  · cases h; exact ⟨⟨Tryd.f10, 1, Tryd.func10, c10_ok⟩, fun g h => by cases h⟩
  · cases h; exact ⟨⟨Tryd.f11, 1, Tryd.func11, c11_ok⟩, fun g h => by cases h⟩
  · cases h; exact ⟨⟨Tryd.f12, 1, Tryd.func12, c12_ok⟩, fun g h => by cases h⟩
  · cases h; exact ⟨⟨Tryd.f13, 1, Tryd.func13, c13_ok⟩, fun g h => by cases h⟩
  · cases h; exact ⟨⟨Tryd.f14, 1, Tryd.func14, c14_ok⟩, fun g h => by cases h⟩
  · cases h; exact ⟨⟨Tryd.f15, 1, Tryd.func15, c15_ok⟩, fun g h => by cases h⟩
  · cases h; exact ⟨⟨Tryd.f16, 1, Tryd.func16, c16_ok⟩, fun g h => by cases h⟩
  · cases h; exact ⟨⟨Tryd.f17, 1, Tryd.func17, c17_ok⟩, fun g h => by cases h⟩
  · cases h; exact ⟨⟨Tryd.f18, 1, Tryd.func18, c18_ok⟩, fun g h => by cases h⟩
  · cases h; exact ⟨⟨Tryd.f19, 1, Tryd.func19, c19_ok⟩, fun g h => by cases h⟩
  · cases h; exact ⟨⟨Tryd.f20, 1, Tryd.func20, c20_ok⟩, fun g h => by cases h⟩
  · cases h; exact ⟨⟨Tryd.f21, 0, Tryd.func21, c21_ok⟩, fun g h => by cases h⟩
  · cases h; exact ⟨⟨Tryd.f22, 1, Tryd.func22, c22_ok⟩, fun g h => by cases h⟩
  · cases h; exact ⟨⟨Tryd.f23, 1, Tryd.func23, c23_ok⟩, fun g h => by cases h⟩
  · cases h; exact ⟨⟨Tryd.f24, 1, Tryd.func24, c24_ok⟩, fun g h => by cases h⟩
  · cases h; exact ⟨⟨Tryd.f25, 1, Tryd.func25, c25_ok⟩, fun g h => by cases h⟩
  · cases h; exact ⟨⟨Tryd.f26, 1, Tryd.func26, c26_ok⟩, fun g h => by cases h⟩
  · cases h; exact ⟨⟨Tryd.f27, 1, Tryd.func27, c27_ok⟩, fun g h => by cases h⟩
  · cases h; exact ⟨⟨Tryd.f28, 1, Tryd.func28, c28_ok⟩, fun g h => by cases h⟩
  · cases h; exact ⟨⟨Tryd.f29, 1, Tryd.func29, c29_ok⟩, fun g h => by cases h⟩
  · cases h; exact ⟨⟨Tryd.f30, 1, Tryd.func30, c30_ok⟩, fun g h => by cases h⟩
  · cases h; exact ⟨⟨Tryd.f31, 1, Tryd.func31, c31_ok⟩, fun g h => by cases h⟩
  · cases h; exact ⟨⟨Tryd.f32, 1, Tryd.func32, c32_ok⟩, fun g h => by cases h⟩
  · cases h; exact ⟨⟨Tryd.f33, 0, Tryd.func33, c33_ok⟩, fun g h => by cases h⟩
  · cases h; exact ⟨⟨Tryd.f34, 1, Tryd.func34, c34_ok⟩, fun g h => by cases h⟩
  · cases h; exact ⟨⟨Tryd.f35, 0, Tryd.func35, c35_ok⟩, fun g h => by cases h⟩
  · cases h; exact ⟨⟨Tryd.f36, 1, Tryd.func36, c36_ok⟩, fun g h => by cases h⟩
  · cases h; exact ⟨⟨Tryd.f37, 0, Tryd.func37, c37_ok⟩, fun g h => by cases h⟩
  · cases h; exact ⟨⟨Tryd.f38, 0, Tryd.func38, c38_ok⟩, fun g h => by cases h⟩
  · cases h; exact ⟨⟨Tryd.f39, 0, Tryd.func39, c39_ok⟩, fun g h => by cases h⟩
  · cases h; exact ⟨⟨Tryd.f40, 1, Tryd.func40, c40_ok⟩, fun g h => by cases h⟩
  · cases h; exact ⟨⟨Tryd.f41, 1, Tryd.func41, c41_ok⟩, fun g h => by cases h⟩
  · cases h; exact ⟨⟨Tryd.f42, 1, Tryd.func42, c42_ok⟩, fun g h => by cases h⟩
  · cases h; exact ⟨⟨Tryd.f43, 1, Tryd.func43, c43_ok⟩, fun g h => by cases h⟩
  · cases h; exact ⟨⟨Tryd.f44, 1, Tryd.func44, c44_ok⟩, fun g h => by cases h⟩
  · cases h; exact ⟨⟨Tryd.f45, 1, Tryd.func45, c45_ok⟩, fun g h => by cases h⟩
  · cases h; exact ⟨⟨Tryd.f46, 0, Tryd.func46, c46_ok⟩, fun g h => by cases h⟩
  · cases h; exact ⟨⟨Tryd.f47, 0, Tryd.func47, c47_ok⟩, fun g h => by cases h⟩
  · cases h; exact ⟨⟨Tryd.f48, 1, Tryd.func48, c48_ok⟩, fun g h => by cases h⟩
  · cases h; exact ⟨⟨Tryd.f49, 1, Tryd.func49, c49_ok⟩, fun g h => by cases h⟩
  · cases h; exact ⟨⟨Tryd.f50, 3, Tryd.func50, c50_ok⟩, fun g h => by cases h⟩
  · cases h; exact ⟨⟨Tryd.f51, 1, Tryd.func51, c51_ok⟩, fun g h => by cases h⟩
  · cases h; exact ⟨⟨Tryd.f52, 1, Tryd.func52, c52_ok⟩, fun g h => by cases h⟩
  · cases h; exact ⟨⟨Tryd.f53, 1, Tryd.func53, c53_ok⟩, fun g h => by cases h⟩
  · cases h; exact ⟨⟨Tryd.f54, 1, Tryd.func54, c54_ok⟩, fun g h => by cases h⟩
  · cases h; exact ⟨⟨Tryd.f55, 1, Tryd.func55, c55_ok⟩, fun g h => by cases h⟩
  · cases h; exact ⟨⟨Tryd.f56, 1, Tryd.func56, c56_ok⟩, fun g h => by cases h⟩
  · cases h; exact ⟨⟨Tryd.f57, 0, Tryd.func57, c57_ok⟩, fun g h => by cases h⟩
  · cases h; exact ⟨⟨Tryd.f58, 1, Tryd.func58, c58_ok⟩, fun g h => by cases h⟩
  · cases h; exact ⟨⟨Tryd.f59, 3, Tryd.func59, c59_ok⟩, fun g h => by cases h⟩
  · cases h; exact ⟨⟨Tryd.f60, 1, Tryd.func60, c60_ok⟩, fun g h => by cases h⟩
  · cases h; exact ⟨⟨Tryd.f61, 1, Tryd.func61, c61_ok⟩, fun g h => by cases h⟩
  · cases h; exact ⟨⟨Tryd.f62, 1, Tryd.func62, c62_ok⟩, fun g h => by cases h⟩
  · cases h; exact ⟨⟨Tryd.f63, 1, Tryd.func63, c63_ok⟩, fun g h => by cases h; exact joinOk⟩
  · cases h; exact ⟨⟨Tryd.f64, 1, Tryd.func64, c64_ok⟩, fun g h => by cases h⟩
  · cases h; exact ⟨⟨Tryd.f65, 1, Tryd.func65, c65_ok⟩, fun g h => by cases h⟩
  · cases h; exact ⟨⟨Tryd.f66, 0, Tryd.func66, c66_ok⟩, fun g h => by cases h⟩
  · cases h; exact ⟨⟨Tryd.f67, 0, Tryd.func67, c67_ok⟩, fun g h => by cases h⟩
  · cases h; exact ⟨⟨Tryd.f68, 0, Tryd.func68, c68_ok⟩, fun g h => by cases h⟩
  · cases h; exact ⟨⟨Tryd.f69, 1, Tryd.func69, c69_ok⟩, fun g h => by cases h⟩
  · cases h; exact ⟨⟨Tryd.f70, 0, Tryd.func70, c70_ok⟩, fun g h => by cases h⟩
  · cases h; exact ⟨⟨Tryd.f71, 0, Tryd.func71, c71_ok⟩, fun g h => by cases h⟩
  · cases h; exact ⟨⟨Tryd.f72, 0, Tryd.func72, c72_ok⟩, fun g h => by cases h⟩
  · cases h; exact ⟨⟨Tryd.f73, 1, Tryd.func73, c73_ok⟩, fun g h => by cases h⟩
  · cases h; exact ⟨⟨Tryd.f74, 1, Tryd.func74, c74_ok⟩, fun g h => by cases h⟩
  · cases h; exact ⟨⟨Tryd.f75, 1, Tryd.func75, c75_ok⟩, fun g h => by cases h⟩
  · cases h; exact ⟨⟨Tryd.f76, 1, Tryd.func76, c76_ok⟩, fun g h => by cases h⟩
  · cases h; exact ⟨⟨Tryd.f77, 1, Tryd.func77, c77_ok⟩, fun g h => by cases h⟩
  · cases h; exact ⟨⟨Tryd.f78, 1, Tryd.func78, c78_ok⟩, fun g h => by cases h⟩
  · cases h; exact ⟨⟨Tryd.f79, 1, Tryd.func79, c79_ok⟩, fun g h => by cases h⟩
  · cases h; exact ⟨⟨Tryd.f80, 1, Tryd.func80, c80_ok⟩, fun g h => by cases h⟩
  · cases h; exact ⟨⟨Tryd.f81, 1, Tryd.func81, c81_ok⟩, fun g h => by cases h⟩
  · cases h; exact ⟨⟨Tryd.f82, 3, Tryd.func82, c82_ok⟩, fun g h => by cases h⟩
  · cases h; exact ⟨⟨Tryd.f83, 0, Tryd.func83, c83_ok⟩, fun g h => by cases h⟩
  · cases h; exact ⟨⟨Tryd.f87, 1, Tryd.func87, c87_ok⟩, fun g h => by cases h; exact concOk87⟩
  · cases h; exact ⟨⟨Tryd.f88, 1, Tryd.func88, c88_ok⟩, fun g h => by cases h⟩
  · cases h; exact ⟨⟨Tryd.f90, 1, Tryd.func90, c90_ok⟩, fun g h => by cases h⟩
  · cases h; exact ⟨⟨Tryd.f92, 1, Tryd.func92, c92_ok⟩, fun g h => by cases h; exact concOk⟩
  · cases h; exact ⟨⟨Tryd.f93, 1, Tryd.func93, c93_ok⟩, fun g h => by cases h⟩
  · cases h
end Go.Proofs.YtmogflndepihnaaDoor
