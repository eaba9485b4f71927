/- THE TABLE IS THE PROGRAM'S. No condition. -/
import Derived.Test.YtailfegmnkldoaaKFuns
import Derived.Test.YtailfegmnkldoaaBG2
import Derived.Test.YtailfegmnkldoaaAmTop
set_option linter.unusedSimpArgs false
set_option linter.unusedVariables false
set_option linter.unusedSectionVars false
namespace Go.Proofs.Ytailfegmnkldoaa
open Go Go.Am Go.Proofs
theorem tabOk : TabOk Try.prog tab := by
  intro f fi h
  unfold tab at h
  split at h
  · cases h; exact ⟨⟨Try.f8, 1, Try.func8, c8_ok⟩, fun g h => by cases h⟩
  · cases h; exact ⟨⟨Try.f9, 1, Try.func9, c9_ok⟩, fun g h => by cases h⟩
  · cases h; exact ⟨⟨Try.f38, 1, Try.func38, c38_ok⟩, fun g h => by cases h⟩
  · cases h; exact ⟨⟨Try.f39, 1, Try.func39, c39_ok⟩, fun g h => by cases h⟩
  · cases h; exact ⟨⟨Try.f40, 1, Try.func40, c40_ok⟩, fun g h => by cases h⟩
  · cases h; exact ⟨⟨Try.f41, 1, Try.func41, c41_ok⟩, fun g h => by cases h⟩
  · cases h; exact ⟨⟨Try.f42, 1, Try.func42, c42_ok⟩, fun g h => by cases h⟩
  · cases h; exact ⟨⟨Try.f43, 1, Try.func43, c43_ok⟩, fun g h => by cases h⟩
  · cases h; exact ⟨⟨Try.f44, 1, Try.func44, c44_ok⟩, fun g h => by cases h⟩
  · cases h; exact ⟨⟨Try.f45, 1, Try.func45, c45_ok⟩, fun g h => by cases h⟩
  · cases h; exact ⟨⟨Try.f72, 1, Try.func72, c72_ok⟩, fun g h => by cases h⟩
  · cases h; exact ⟨⟨Try.f73, 3, Try.func73, c73_ok⟩, fun g h => by cases h⟩
  · cases h; exact ⟨⟨Try.f74, 1, Try.func74, c74_ok⟩, fun g h => by cases h⟩
  · cases h; exact ⟨⟨Try.f75, 1, Try.func75, c75_ok⟩, fun g h => by cases h⟩
  · cases h; exact ⟨⟨Try.f76, 1, Try.func76, c76_ok⟩, fun g h => by cases h⟩
  · cases h; exact ⟨⟨Try.f77, 1, Try.func77, c77_ok⟩, fun g h => by cases h⟩
  · cases h; exact ⟨⟨Try.f78, 1, Try.func78, c78_ok⟩, fun g h => by cases h⟩
  · cases h; exact ⟨⟨Try.f79, 1, Try.func79, c79_ok⟩, fun g h => by cases h⟩
  · cases h; exact ⟨⟨Try.f80, 1, Try.func80, c80_ok⟩, fun g h => by cases h⟩
  · cases h; exact ⟨⟨Try.f81, 1, Try.func81, c81_ok⟩, fun g h => by cases h⟩
  · cases h; exact ⟨⟨Try.f120, 1, Try.func120, c120_ok⟩, fun g h => by cases h⟩
  · cases h; exact ⟨⟨Try.f121, 1, Try.func121, c121_ok⟩, fun g h => by cases h⟩
  · cases h; exact ⟨⟨Try.f122, 2, Try.func122, c122_ok⟩, fun g h => by cases h⟩
  · cases h; exact ⟨⟨Try.f123, 3, Try.func123, c123_ok⟩, fun g h => by cases h⟩
  · cases h; exact ⟨⟨Try.f124, 1, Try.func124, c124_ok⟩, fun g h => by cases h⟩
  · cases h; exact ⟨⟨Try.f125, 1, Try.func125, c125_ok⟩, fun g h => by cases h⟩
  · cases h; exact ⟨⟨Try.f126, 1, Try.func126, c126_ok⟩, fun g h => by cases h⟩
  · cases h; exact ⟨⟨Try.f127, 2, Try.func127, c127_ok⟩, fun g h => by cases h⟩
  · cases h; exact ⟨⟨Try.f128, 1, Try.func128, c128_ok⟩, fun g h => by cases h⟩
  · cases h; exact ⟨⟨Try.f129, 1, Try.func129, c129_ok⟩, fun g h => by cases h⟩
  · cases h; exact ⟨⟨Try.f130, 1, Try.func130, c130_ok⟩, fun g h => by cases h⟩
  · cases h; exact ⟨⟨Try.f131, 1, Try.func131, c131_ok⟩, fun g h => by cases h⟩
  · cases h; exact ⟨⟨Try.f132, 1, Try.func132, c132_ok⟩, fun g h => by cases h⟩
  · cases h; exact ⟨⟨Try.f133, 1, Try.func133, c133_ok⟩, fun g h => by cases h⟩
  · cases h; exact ⟨⟨Try.f134, 1, Try.func134, c134_ok⟩, fun g h => by cases h⟩
  · cases h; exact ⟨⟨Try.f135, 1, Try.func135, c135_ok⟩, fun g h => by cases h⟩
  · cases h; exact ⟨⟨Try.f136, 1, Try.func136, c136_ok⟩, fun g h => by cases h⟩
  · cases h; exact ⟨⟨Try.f137, 1, Try.func137, c137_ok⟩, fun g h => by cases h⟩
  · cases h; exact ⟨⟨Try.f154, 1, Try.func154, c154_ok⟩, fun g h => by cases h⟩
  · cases h; exact ⟨⟨Try.f155, 1, Try.func155, c155_ok⟩, fun g h => by cases h⟩
  · cases h; exact ⟨⟨Try.f156, 0, Try.func156, c156_ok⟩, fun g h => by cases h⟩
  · cases h; exact ⟨⟨Try.f157, 1, Try.func157, c157_ok⟩, fun g h => by cases h⟩
  · cases h; exact ⟨⟨Try.f158, 1, Try.func158, c158_ok⟩, fun g h => by cases h⟩
  · cases h; exact ⟨⟨Try.f159, 1, Try.func159, c159_ok⟩, fun g h => by cases h⟩
  · cases h; exact ⟨⟨Try.f160, 1, Try.func160, c160_ok⟩, fun g h => by cases h⟩
  · cases h; exact ⟨⟨Try.f161, 1, Try.func161, c161_ok⟩, fun g h => by cases h⟩
  · cases h; exact ⟨⟨Try.f162, 1, Try.func162, c162_ok⟩, fun g h => by cases h⟩
  · cases h; exact ⟨⟨Try.f163, 1, Try.func163, c163_ok⟩, fun g h => by cases h⟩
  · cases h; exact ⟨⟨Try.f164, 0, Try.func164, c164_ok⟩, fun g h => by cases h⟩
  · cases h; exact ⟨⟨Try.f165, 0, Try.func165, c165_ok⟩, fun g h => by cases h⟩
  · cases h; exact ⟨⟨Try.f166, 0, Try.func166, c166_ok⟩, fun g h => by cases h⟩
  · cases h; exact ⟨⟨Try.f167, 1, Try.func167, c167_ok⟩, fun g h => by cases h⟩
  · cases h; exact ⟨⟨Try.f168, 1, Try.func168, c168_ok⟩, fun g h => by cases h⟩
  · cases h; exact ⟨⟨Try.f169, 1, Try.func169, c169_ok⟩, fun g h => by cases h⟩
  · cases h; exact ⟨⟨Try.f170, 1, Try.func170, c170_ok⟩, fun g h => by cases h⟩
  · cases h; exact ⟨⟨Try.f179, 1, Try.func179, c179_ok⟩, fun g h => by cases h⟩
  · cases h; exact ⟨⟨Try.f180, 1, Try.func180, c180_ok⟩, fun g h => by cases h⟩
  · cases h; exact ⟨⟨Try.f181, 1, Try.func181, c181_ok⟩, fun g h => by cases h⟩
  · cases h; exact ⟨⟨Try.f182, 1, Try.func182, c182_ok⟩, fun g h => by cases h⟩
  · cases h; exact ⟨⟨Try.f183, 1, Try.func183, c183_ok⟩, fun g h => by cases h⟩
  · cases h; exact ⟨⟨Try.f184, 0, Try.func184, c184_ok⟩, fun g h => by cases h⟩
  · cases h; exact ⟨⟨Try.f185, 1, Try.func185, c185_ok⟩, fun g h => by cases h; exact concOk⟩
  · cases h; exact ⟨⟨Try.f186, 0, Try.func186, c186_ok⟩, fun g h => by cases h⟩
  · cases h; exact ⟨⟨Try.f187, 0, Try.func187, c187_ok⟩, fun g h => by cases h⟩
  · cases h; exact ⟨⟨Try.f188, 0, Try.func188, c188_ok⟩, fun g h => by cases h⟩
  · cases h; exact ⟨⟨Try.f189, 1, Try.func189, c189_ok⟩, fun g h => by cases h⟩
  · cases h; exact ⟨⟨Try.f193, 1, Try.func193, c193_ok⟩, fun g h => by cases h⟩
  · cases h; exact ⟨⟨Try.f194, 1, Try.func194, c194_ok⟩, fun g h => by cases h⟩
  · cases h; exact ⟨⟨Try.f196, 0, Try.func196, c196_ok⟩, fun g h => by cases h⟩
  · cases h; exact ⟨⟨Try.f197, 0, Try.func197, c197_ok⟩, fun g h => by cases h⟩
  · cases h; exact ⟨⟨Try.f198, 1, Try.func198, c198_ok⟩, fun g h => by cases h⟩
  · cases h; exact ⟨⟨Try.f199, 0, Try.func199, c199_ok⟩, fun g h => by cases h⟩
  · cases h; exact ⟨⟨Try.f200, 1, Try.func200, c200_ok⟩, fun g h => by cases h⟩
  · cases h; exact ⟨⟨Try.f202, 0, Try.func202, c202_ok⟩, fun g h => by cases h⟩
  · cases h; exact ⟨⟨Try.f203, 1, Try.func203, c203_ok⟩, fun g h => by cases h⟩
  · cases h; exact ⟨⟨Try.f204, 1, Try.func204, c204_ok⟩, fun g h => by cases h⟩
  · cases h; exact ⟨⟨Try.f208, 0, Try.func208, c208_ok⟩, fun g h => by cases h⟩
  · cases h; exact ⟨⟨Try.f209, 0, Try.func209, c209_ok⟩, fun g h => by cases h⟩
  · cases h; exact ⟨⟨Try.f210, 1, Try.func210, c210_ok⟩, fun g h => by cases h⟩
  · cases h; exact ⟨⟨Try.f213, 0, Try.func213, c213_ok⟩, fun g h => by cases h⟩
  · cases h
end Go.Proofs.Ytailfegmnkldoaa
