/- THE TABLE IS THE PROGRAM'S. No condition. -/
import Derived.Test.YtncmflmjlocgiaaIFuns
import Derived.Test.YtncmflmjlocgiaaAmCall
set_option linter.unusedSimpArgs false
set_option linter.unusedVariables false
set_option linter.unusedSectionVars false
namespace Go.Proofs.Ytncmflmjlocgiaa
open Go Go.Am Go.Proofs
theorem tabOk : TabOk Try.prog tab := by
  intro f fi h
  unfold tab at h
  split at h
  · cases h; exact ⟨Try.f8, 1, Try.func8, c8_ok⟩
  · cases h; exact ⟨Try.f9, 1, Try.func9, c9_ok⟩
  · cases h; exact ⟨Try.f10, 1, Try.func10, c10_ok⟩
  · cases h; exact ⟨Try.f11, 1, Try.func11, c11_ok⟩
  · cases h; exact ⟨Try.f12, 1, Try.func12, c12_ok⟩
  · cases h; exact ⟨Try.f13, 1, Try.func13, c13_ok⟩
  · cases h; exact ⟨Try.f20, 1, Try.func20, c20_ok⟩
  · cases h; exact ⟨Try.f25, 1, Try.func25, c25_ok⟩
  · cases h; exact ⟨Try.f32, 1, Try.func32, c32_ok⟩
  · cases h; exact ⟨Try.f33, 1, Try.func33, c33_ok⟩
  · cases h; exact ⟨Try.f34, 1, Try.func34, c34_ok⟩
  · cases h; exact ⟨Try.f35, 1, Try.func35, c35_ok⟩
  · cases h; exact ⟨Try.f36, 1, Try.func36, c36_ok⟩
  · cases h; exact ⟨Try.f37, 1, Try.func37, c37_ok⟩
  · cases h; exact ⟨Try.f38, 1, Try.func38, c38_ok⟩
  · cases h; exact ⟨Try.f39, 1, Try.func39, c39_ok⟩
  · cases h; exact ⟨Try.f40, 1, Try.func40, c40_ok⟩
  · cases h; exact ⟨Try.f41, 1, Try.func41, c41_ok⟩
  · cases h; exact ⟨Try.f42, 1, Try.func42, c42_ok⟩
  · cases h; exact ⟨Try.f43, 1, Try.func43, c43_ok⟩
  · cases h; exact ⟨Try.f44, 1, Try.func44, c44_ok⟩
  · cases h; exact ⟨Try.f45, 1, Try.func45, c45_ok⟩
  · cases h; exact ⟨Try.f46, 1, Try.func46, c46_ok⟩
  · cases h; exact ⟨Try.f47, 1, Try.func47, c47_ok⟩
  · cases h; exact ⟨Try.f49, 1, Try.func49, c49_ok⟩
  · cases h; exact ⟨Try.f50, 1, Try.func50, c50_ok⟩
  · cases h; exact ⟨Try.f53, 1, Try.func53, c53_ok⟩
  · cases h; exact ⟨Try.f54, 3, Try.func54, c54_ok⟩
  · cases h; exact ⟨Try.f55, 3, Try.func55, c55_ok⟩
  · cases h; exact ⟨Try.f56, 1, Try.func56, c56_ok⟩
  · cases h; exact ⟨Try.f64, 1, Try.func64, c64_ok⟩
  · cases h; exact ⟨Try.f65, 1, Try.func65, c65_ok⟩
  · cases h; exact ⟨Try.f66, 1, Try.func66, c66_ok⟩
  · cases h; exact ⟨Try.f67, 1, Try.func67, c67_ok⟩
  · cases h; exact ⟨Try.f68, 1, Try.func68, c68_ok⟩
  · cases h; exact ⟨Try.f69, 1, Try.func69, c69_ok⟩
  · cases h; exact ⟨Try.f70, 1, Try.func70, c70_ok⟩
  · cases h; exact ⟨Try.f71, 1, Try.func71, c71_ok⟩
  · cases h; exact ⟨Try.f72, 1, Try.func72, c72_ok⟩
  · cases h; exact ⟨Try.f73, 1, Try.func73, c73_ok⟩
  · cases h; exact ⟨Try.f74, 1, Try.func74, c74_ok⟩
  · cases h; exact ⟨Try.f75, 3, Try.func75, c75_ok⟩
  · cases h; exact ⟨Try.f76, 1, Try.func76, c76_ok⟩
  · cases h; exact ⟨Try.f77, 1, Try.func77, c77_ok⟩
  · cases h; exact ⟨Try.f78, 1, Try.func78, c78_ok⟩
  · cases h; exact ⟨Try.f79, 1, Try.func79, c79_ok⟩
  · cases h; exact ⟨Try.f80, 1, Try.func80, c80_ok⟩
  · cases h; exact ⟨Try.f81, 1, Try.func81, c81_ok⟩
  · cases h; exact ⟨Try.f82, 1, Try.func82, c82_ok⟩
  · cases h; exact ⟨Try.f83, 1, Try.func83, c83_ok⟩
  · cases h; exact ⟨Try.f84, 1, Try.func84, c84_ok⟩
  · cases h; exact ⟨Try.f85, 1, Try.func85, c85_ok⟩
  · cases h; exact ⟨Try.f90, 1, Try.func90, c90_ok⟩
  · cases h; exact ⟨Try.f97, 1, Try.func97, c97_ok⟩
  · cases h; exact ⟨Try.f99, 1, Try.func99, c99_ok⟩
  · cases h; exact ⟨Try.f100, 1, Try.func100, c100_ok⟩
  · cases h; exact ⟨Try.f101, 1, Try.func101, c101_ok⟩
  · cases h; exact ⟨Try.f102, 1, Try.func102, c102_ok⟩
  · cases h; exact ⟨Try.f103, 1, Try.func103, c103_ok⟩
  · cases h; exact ⟨Try.f104, 1, Try.func104, c104_ok⟩
  · cases h; exact ⟨Try.f105, 1, Try.func105, c105_ok⟩
  · cases h; exact ⟨Try.f106, 0, Try.func106, c106_ok⟩
  · cases h; exact ⟨Try.f107, 1, Try.func107, c107_ok⟩
  · cases h; exact ⟨Try.f108, 1, Try.func108, c108_ok⟩
  · cases h; exact ⟨Try.f109, 1, Try.func109, c109_ok⟩
  · cases h; exact ⟨Try.f110, 1, Try.func110, c110_ok⟩
  · cases h; exact ⟨Try.f111, 1, Try.func111, c111_ok⟩
  · cases h; exact ⟨Try.f112, 1, Try.func112, c112_ok⟩
  · cases h; exact ⟨Try.f113, 1, Try.func113, c113_ok⟩
  · cases h; exact ⟨Try.f114, 1, Try.func114, c114_ok⟩
  · cases h; exact ⟨Try.f115, 1, Try.func115, c115_ok⟩
  · cases h; exact ⟨Try.f116, 1, Try.func116, c116_ok⟩
  · cases h; exact ⟨Try.f117, 1, Try.func117, c117_ok⟩
  · cases h; exact ⟨Try.f118, 1, Try.func118, c118_ok⟩
  · cases h; exact ⟨Try.f119, 1, Try.func119, c119_ok⟩
  · cases h; exact ⟨Try.f120, 1, Try.func120, c120_ok⟩
  · cases h; exact ⟨Try.f121, 1, Try.func121, c121_ok⟩
  · cases h; exact ⟨Try.f122, 1, Try.func122, c122_ok⟩
  · cases h; exact ⟨Try.f123, 1, Try.func123, c123_ok⟩
  · cases h; exact ⟨Try.f124, 1, Try.func124, c124_ok⟩
  · cases h; exact ⟨Try.f125, 1, Try.func125, c125_ok⟩
  · cases h; exact ⟨Try.f126, 1, Try.func126, c126_ok⟩
  · cases h; exact ⟨Try.f137, 1, Try.func137, c137_ok⟩
  · cases h; exact ⟨Try.f138, 1, Try.func138, c138_ok⟩
  · cases h; exact ⟨Try.f139, 1, Try.func139, c139_ok⟩
  · cases h; exact ⟨Try.f140, 1, Try.func140, c140_ok⟩
  · cases h; exact ⟨Try.f141, 1, Try.func141, c141_ok⟩
  · cases h; exact ⟨Try.f150, 1, Try.func150, c150_ok⟩
  · cases h; exact ⟨Try.f151, 1, Try.func151, c151_ok⟩
  · cases h; exact ⟨Try.f152, 1, Try.func152, c152_ok⟩
  · cases h; exact ⟨Try.f153, 1, Try.func153, c153_ok⟩
  · cases h; exact ⟨Try.f154, 1, Try.func154, c154_ok⟩
  · cases h; exact ⟨Try.f162, 1, Try.func162, c162_ok⟩
  · cases h; exact ⟨Try.f163, 1, Try.func163, c163_ok⟩
  · cases h; exact ⟨Try.f164, 1, Try.func164, c164_ok⟩
  · cases h; exact ⟨Try.f165, 1, Try.func165, c165_ok⟩
  · cases h; exact ⟨Try.f166, 1, Try.func166, c166_ok⟩
  · cases h; exact ⟨Try.f167, 1, Try.func167, c167_ok⟩
  · cases h
end Go.Proofs.Ytncmflmjlocgiaa
