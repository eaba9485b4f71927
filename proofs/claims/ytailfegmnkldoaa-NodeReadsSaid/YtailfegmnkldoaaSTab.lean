/- THE TABLE IS THE PROGRAM'S. No condition. -/
import Derived.Test.YtailfegmnkldoaaSFuns
import Derived.Test.YtailfegmnkldoaaIG2
import Derived.Test.YtailfegmnkldoaaAmTop
set_option linter.unusedSimpArgs false
set_option linter.unusedVariables false
set_option linter.unusedSectionVars false
namespace Go.Proofs.Ytailfegmnkldoaa
open Go Go.Am Go.Proofs
theorem tabOk : TabOk Try.prog tab := by
  intro f fi h
  unfold tab at h
  split at h
  · cases h; exact ⟨⟨Try.f4, 1, Try.func4, c4_ok⟩, (fun g h => by cases h), (fun g h => by cases h)⟩
  · cases h; exact ⟨⟨Try.f5, 1, Try.func5, c5_ok⟩, (fun g h => by cases h), (fun g h => by cases h)⟩
  · cases h; exact ⟨⟨Try.f6, 1, Try.func6, c6_ok⟩, (fun g h => by cases h), (fun g h => by cases h)⟩
  · cases h; exact ⟨⟨Try.f7, 1, Try.func7, c7_ok⟩, (fun g h => by cases h), (fun g h => by cases h)⟩
  · cases h; exact ⟨⟨Try.f20, 1, Try.func20, c20_ok⟩, (fun g h => by cases h), (fun g h => by cases h)⟩
  · cases h; exact ⟨⟨Try.f21, 1, Try.func21, c21_ok⟩, (fun g h => by cases h), (fun g h => by cases h)⟩
  · cases h; exact ⟨⟨Try.f22, 1, Try.func22, c22_ok⟩, (fun g h => by cases h), (fun g h => by cases h)⟩
  · cases h; exact ⟨⟨Try.f23, 1, Try.func23, c23_ok⟩, (fun g h => by cases h), (fun g h => by cases h)⟩
  · cases h; exact ⟨⟨Try.f24, 1, Try.func24, c24_ok⟩, (fun g h => by cases h), (fun g h => by cases h)⟩
  · cases h; exact ⟨⟨Try.f25, 1, Try.func25, c25_ok⟩, (fun g h => by cases h), (fun g h => by cases h)⟩
  · cases h; exact ⟨⟨Try.f26, 1, Try.func26, c26_ok⟩, (fun g h => by cases h), (fun g h => by cases h)⟩
  · cases h; exact ⟨⟨Try.f27, 1, Try.func27, c27_ok⟩, (fun g h => by cases h), (fun g h => by cases h)⟩
  · cases h; exact ⟨⟨Try.f28, 1, Try.func28, c28_ok⟩, (fun g h => by cases h), (fun g h => by cases h)⟩
  · cases h; exact ⟨⟨Try.f29, 1, Try.func29, c29_ok⟩, (fun g h => by cases h), (fun g h => by cases h)⟩
  · cases h; exact ⟨⟨Try.f30, 1, Try.func30, c30_ok⟩, (fun g h => by cases h), (fun g h => by cases h)⟩
  · cases h; exact ⟨⟨Try.f31, 1, Try.func31, c31_ok⟩, (fun g h => by cases h), (fun g h => by cases h)⟩
  · cases h; exact ⟨⟨Try.f32, 1, Try.func32, c32_ok⟩, (fun g h => by cases h), (fun g h => by cases h)⟩
  · cases h; exact ⟨⟨Try.f33, 1, Try.func33, c33_ok⟩, (fun g h => by cases h), (fun g h => by cases h)⟩
  · cases h; exact ⟨⟨Try.f34, 0, Try.func34, c34_ok⟩, (fun g h => by cases h), (fun g h => by cases h)⟩
  · cases h; exact ⟨⟨Try.f35, 1, Try.func35, c35_ok⟩, (fun g h => by cases h), (fun g h => by cases h)⟩
  · cases h; exact ⟨⟨Try.f36, 1, Try.func36, c36_ok⟩, (fun g h => by cases h), (fun g h => by cases h)⟩
  · cases h; exact ⟨⟨Try.f37, 1, Try.func37, c37_ok⟩, (fun g h => by cases h), (fun g h => by cases h)⟩
  · cases h; exact ⟨⟨Try.f55, 1, Try.func55, c55_ok⟩, (fun g h => by cases h), (fun g h => by cases h)⟩
  · cases h; exact ⟨⟨Try.f56, 1, Try.func56, c56_ok⟩, (fun g h => by cases h), (fun g h => by cases h)⟩
  · cases h; exact ⟨⟨Try.f57, 1, Try.func57, c57_ok⟩, (fun g h => by cases h), (fun g h => by cases h)⟩
  · cases h; exact ⟨⟨Try.f58, 1, Try.func58, c58_ok⟩, (fun g h => by cases h), (fun g h => by cases h)⟩
  · cases h; exact ⟨⟨Try.f59, 1, Try.func59, c59_ok⟩, (fun g h => by cases h), (fun g h => by cases h)⟩
  · cases h; exact ⟨⟨Try.f60, 1, Try.func60, c60_ok⟩, (fun g h => by cases h), (fun g h => by cases h)⟩
  · cases h; exact ⟨⟨Try.f61, 1, Try.func61, c61_ok⟩, (fun g h => by cases h), (fun g h => by cases h)⟩
  · cases h; exact ⟨⟨Try.f62, 1, Try.func62, c62_ok⟩, (fun g h => by cases h), (fun g h => by cases h)⟩
  · cases h; exact ⟨⟨Try.f63, 1, Try.func63, c63_ok⟩, (fun g h => by cases h), (fun g h => by cases h)⟩
  · cases h; exact ⟨⟨Try.f64, 1, Try.func64, c64_ok⟩, (fun g h => by cases h), (fun g h => by cases h)⟩
  · cases h; exact ⟨⟨Try.f65, 1, Try.func65, c65_ok⟩, (fun g h => by cases h), (fun g h => by cases h)⟩
  · cases h; exact ⟨⟨Try.f66, 1, Try.func66, c66_ok⟩, (fun g h => by cases h), (fun g h => by cases h)⟩
  · cases h; exact ⟨⟨Try.f67, 1, Try.func67, c67_ok⟩, (fun g h => by cases h), (fun g h => by cases h)⟩
  · cases h; exact ⟨⟨Try.f68, 1, Try.func68, c68_ok⟩, (fun g h => by cases h), (fun g h => by cases h)⟩
  · cases h; exact ⟨⟨Try.f69, 0, Try.func69, c69_ok⟩, (fun g h => by cases h), (fun g h => by cases h)⟩
  · cases h; exact ⟨⟨Try.f70, 1, Try.func70, c70_ok⟩, (fun g h => by cases h), (fun g h => by cases h)⟩
  · cases h; exact ⟨⟨Try.f71, 1, Try.func71, c71_ok⟩, (fun g h => by cases h), (fun g h => by cases h)⟩
  · cases h; exact ⟨⟨Try.f86, 1, Try.func86, c86_ok⟩, (fun g h => by cases h), (fun g h => by cases h)⟩
  · cases h; exact ⟨⟨Try.f87, 1, Try.func87, c87_ok⟩, (fun g h => by cases h), (fun g h => by cases h)⟩
  · cases h; exact ⟨⟨Try.f88, 1, Try.func88, c88_ok⟩, (fun g h => by cases h), (fun g h => by cases h)⟩
  · cases h; exact ⟨⟨Try.f89, 1, Try.func89, c89_ok⟩, (fun g h => by cases h), (fun g h => by cases h)⟩
  · cases h; exact ⟨⟨Try.f90, 1, Try.func90, c90_ok⟩, (fun g h => by cases h), (fun g h => by cases h)⟩
  · cases h; exact ⟨⟨Try.f91, 1, Try.func91, c91_ok⟩, (fun g h => by cases h), (fun g h => by cases h)⟩
  · cases h; exact ⟨⟨Try.f92, 1, Try.func92, c92_ok⟩, (fun g h => by cases h), (fun g h => by cases h)⟩
  · cases h; exact ⟨⟨Try.f93, 1, Try.func93, c93_ok⟩, (fun g h => by cases h), (fun g h => by cases h)⟩
  · cases h; exact ⟨⟨Try.f94, 1, Try.func94, c94_ok⟩, (fun g h => by cases h), (fun g h => by cases h)⟩
  · cases h; exact ⟨⟨Try.f95, 1, Try.func95, c95_ok⟩, (fun g h => by cases h), (fun g h => by cases h)⟩
  · cases h; exact ⟨⟨Try.f96, 1, Try.func96, c96_ok⟩, (fun g h => by cases h), (fun g h => by cases h)⟩
  · cases h; exact ⟨⟨Try.f97, 1, Try.func97, c97_ok⟩, (fun g h => by cases h), (fun g h => by cases h)⟩
  · cases h; exact ⟨⟨Try.f98, 1, Try.func98, c98_ok⟩, (fun g h => by cases h), (fun g h => by cases h)⟩
  · cases h; exact ⟨⟨Try.f99, 1, Try.func99, c99_ok⟩, (fun g h => by cases h), (fun g h => by cases h)⟩
  · cases h; exact ⟨⟨Try.f100, 1, Try.func100, c100_ok⟩, (fun g h => by cases h), (fun g h => by cases h)⟩
  · cases h; exact ⟨⟨Try.f101, 1, Try.func101, c101_ok⟩, (fun g h => by cases h), (fun g h => by cases h)⟩
  · cases h; exact ⟨⟨Try.f102, 1, Try.func102, c102_ok⟩, (fun g h => by cases h), (fun g h => by cases h)⟩
  · cases h; exact ⟨⟨Try.f103, 1, Try.func103, c103_ok⟩, (fun g h => by cases h), (fun g h => by cases h)⟩
  · cases h; exact ⟨⟨Try.f104, 1, Try.func104, c104_ok⟩, (fun g h => by cases h), (fun g h => by cases h)⟩
  · cases h; exact ⟨⟨Try.f105, 1, Try.func105, c105_ok⟩, (fun g h => by cases h), (fun g h => by cases h)⟩
  · cases h; exact ⟨⟨Try.f106, 1, Try.func106, c106_ok⟩, (fun g h => by cases h), (fun g h => by cases h)⟩
  · cases h; exact ⟨⟨Try.f107, 1, Try.func107, c107_ok⟩, (fun g h => by cases h), (fun g h => by cases h)⟩
  · cases h; exact ⟨⟨Try.f108, 1, Try.func108, c108_ok⟩, (fun g h => by cases h), (fun g h => by cases h)⟩
  · cases h; exact ⟨⟨Try.f109, 1, Try.func109, c109_ok⟩, (fun g h => by cases h), (fun g h => by cases h)⟩
  · cases h; exact ⟨⟨Try.f110, 1, Try.func110, c110_ok⟩, (fun g h => by cases h), (fun g h => by cases h)⟩
  · cases h; exact ⟨⟨Try.f111, 1, Try.func111, c111_ok⟩, (fun g h => by cases h), (fun g h => by cases h)⟩
  · cases h; exact ⟨⟨Try.f112, 1, Try.func112, c112_ok⟩, (fun g h => by cases h), (fun g h => by cases h)⟩
  · cases h; exact ⟨⟨Try.f113, 1, Try.func113, c113_ok⟩, (fun g h => by cases h), (fun g h => by cases h)⟩
  · cases h; exact ⟨⟨Try.f114, 1, Try.func114, c114_ok⟩, (fun g h => by cases h), (fun g h => by cases h)⟩
  · cases h; exact ⟨⟨Try.f115, 3, Try.func115, c115_ok⟩, (fun g h => by cases h), (fun g h => by cases h)⟩
  · cases h; exact ⟨⟨Try.f116, 3, Try.func116, c116_ok⟩, (fun g h => by cases h), (fun g h => by cases h)⟩
  · cases h; exact ⟨⟨Try.f117, 3, Try.func117, c117_ok⟩, (fun g h => by cases h), (fun g h => by cases h)⟩
  · cases h; exact ⟨⟨Try.f118, 3, Try.func118, c118_ok⟩, (fun g h => by cases h), (fun g h => by cases h)⟩
  · cases h; exact ⟨⟨Try.f119, 3, Try.func119, c119_ok⟩, (fun g h => by cases h), (fun g h => by cases h)⟩
  · cases h; exact ⟨⟨Try.f140, 1, Try.func140, c140_ok⟩, (fun g h => by cases h), (fun g h => by cases h)⟩
  · cases h; exact ⟨⟨Try.f141, 0, Try.func141, c141_ok⟩, (fun g h => by cases h), (fun g h => by cases h; exact insOk)⟩
  · cases h; exact ⟨⟨Try.f142, 1, Try.func142, c142_ok⟩, (fun g h => by cases h), (fun g h => by cases h)⟩
  · cases h; exact ⟨⟨Try.f143, 1, Try.func143, c143_ok⟩, (fun g h => by cases h), (fun g h => by cases h)⟩
  · cases h; exact ⟨⟨Try.f144, 1, Try.func144, c144_ok⟩, (fun g h => by cases h), (fun g h => by cases h)⟩
  · cases h; exact ⟨⟨Try.f145, 1, Try.func145, c145_ok⟩, (fun g h => by cases h), (fun g h => by cases h)⟩
  · cases h; exact ⟨⟨Try.f146, 3, Try.func146, c146_ok⟩, (fun g h => by cases h), (fun g h => by cases h)⟩
  · cases h; exact ⟨⟨Try.f147, 2, Try.func147, c147_ok⟩, (fun g h => by cases h), (fun g h => by cases h)⟩
  · cases h; exact ⟨⟨Try.f148, 1, Try.func148, c148_ok⟩, (fun g h => by cases h), (fun g h => by cases h)⟩
  · cases h; exact ⟨⟨Try.f149, 1, Try.func149, c149_ok⟩, (fun g h => by cases h), (fun g h => by cases h)⟩
  · cases h; exact ⟨⟨Try.f150, 1, Try.func150, c150_ok⟩, (fun g h => by cases h), (fun g h => by cases h)⟩
  · cases h; exact ⟨⟨Try.f151, 3, Try.func151, c151_ok⟩, (fun g h => by cases h), (fun g h => by cases h)⟩
  · cases h; exact ⟨⟨Try.f152, 1, Try.func152, c152_ok⟩, (fun g h => by cases h), (fun g h => by cases h)⟩
  · cases h; exact ⟨⟨Try.f153, 1, Try.func153, c153_ok⟩, (fun g h => by cases h), (fun g h => by cases h)⟩
  · cases h; exact ⟨⟨Try.f171, 1, Try.func171, c171_ok⟩, (fun g h => by cases h), (fun g h => by cases h)⟩
  · cases h; exact ⟨⟨Try.f172, 1, Try.func172, c172_ok⟩, (fun g h => by cases h), (fun g h => by cases h)⟩
  · cases h; exact ⟨⟨Try.f175, 1, Try.func175, c175_ok⟩, (fun g h => by cases h), (fun g h => by cases h)⟩
  · cases h; exact ⟨⟨Try.f176, 1, Try.func176, c176_ok⟩, (fun g h => by cases h), (fun g h => by cases h)⟩
  · cases h; exact ⟨⟨Try.f177, 1, Try.func177, c177_ok⟩, (fun g h => by cases h), (fun g h => by cases h)⟩
  · cases h; exact ⟨⟨Try.f178, 1, Try.func178, c178_ok⟩, (fun g h => by cases h), (fun g h => by cases h)⟩
  · cases h; exact ⟨⟨Try.f191, 1, Try.func191, c191_ok⟩, (fun g h => by cases h), (fun g h => by cases h)⟩
  · cases h; exact ⟨⟨Try.f192, 1, Try.func192, c192_ok⟩, (fun g h => by cases h), (fun g h => by cases h)⟩
  · cases h
end Go.Proofs.Ytailfegmnkldoaa
