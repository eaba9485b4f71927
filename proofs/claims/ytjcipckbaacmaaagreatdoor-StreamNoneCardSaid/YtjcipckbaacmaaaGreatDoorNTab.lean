/- THE TABLE IS THE PROGRAM'S. No condition. -/
import Derived.Test.YtjcipckbaacmaaaGreatDoorNFuns
import Derived.Test.YtjcipckbaacmaaaGreatDoorQ1
import Derived.Test.YtjcipckbaacmaaaGreatDoorAmTop
set_option linter.all false
namespace Go.Proofs.YtjcipckbaacmaaaGreatDoor
open Go Go.Am Go.Proofs
theorem tabOk:TabOk Tryz.prog tab:=by
 intro f fi h
 unfold tab at h
 split at h
 . cases h;exact tk0 Tryz.func3 (p:=1) (by kernel_rfl)
 . cases h;exact tk0 Tryz.func4 (p:=0) (by kernel_rfl)
 . cases h;exact tk0 Tryz.func5 (p:=0) (by kernel_rfl)
 . cases h;exact tk0 Tryz.func6 (p:=0) (by kernel_rfl)
 . cases h;exact tk0 Tryz.func7 (p:=0) (by kernel_rfl)
 . cases h;exact tk0 Tryz.func8 (p:=1) (by kernel_rfl)
 . cases h;exact tk0 Tryz.func9 (p:=0) (by kernel_rfl)
 . cases h;exact tk0 Tryz.func10 (p:=0) (by kernel_rfl)
 . cases h;exact tk0 Tryz.func11 (p:=0) (by kernel_rfl)
 . cases h;exact tk0 Tryz.func12 (p:=0) (by kernel_rfl)
 . cases h;exact tk0 Tryz.func13 (p:=1) (by kernel_rfl)
 . cases h;exact tk0 Tryz.func14 (p:=0) (by kernel_rfl)
 . cases h;exact tk0 Tryz.func15 (p:=0) (by kernel_rfl)
 . cases h;exact tk0 Tryz.func16 (p:=0) (by kernel_rfl)
 . cases h;exact tk0 Tryz.func17 (p:=0) (by kernel_rfl)
 . cases h;exact tk0 Tryz.func19 (p:=0) (by kernel_rfl)
 . cases h;exact tk0 Tryz.func20 (p:=1) (by kernel_rfl)
 . cases h;exact tk0 Tryz.func21 (p:=0) (by kernel_rfl)
 . cases h;exact tk0 Tryz.func22 (p:=0) (by kernel_rfl)
 . cases h;exact tk0 Tryz.func29 (p:=0) (by kernel_rfl)
 . cases h;exact tk0 Tryz.func30 (p:=0) (by kernel_rfl)
 . cases h;exact⟨⟨Tryz.f31,1,Tryz.func31,c31_ok⟩,(fun g h=>by cases h;exact concOk),(fun g h=>by cases h)⟩
 . cases h
end Go.Proofs.YtjcipckbaacmaaaGreatDoor
