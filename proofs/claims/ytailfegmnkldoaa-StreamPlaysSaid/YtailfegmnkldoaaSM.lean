/- THE PLAIN MODEL OF A STREAM. No condition. -/
import Derived.Test.YtailfegmnkldoaaNM
set_option linter.unusedSimpArgs false
set_option linter.unusedVariables false
set_option linter.unusedSectionVars false
namespace Go.Stm
open Go Go.Am Go.Rec Go.Nam
/-- A name that is told. -/
structure Nm where
  key : Int
  name : List UInt8
  inode : Int
def nmA (x : Nm) : List AV := [.int .u64 x.key, .str (bs x.name), .int .i64 x.inode]
instance : Even nmA 3 := ⟨fun _ => rfl⟩
theorem hf_nmA (l : List Nm) : hfL (encs nmA l) = true := hfL_encs (fun _ => rfl) l
theorem one_nmA (l : List Nm) : allOne (encs nmA l) = true := allOne_encs (fun _ => rfl) l
theorem lenN (l : List Nm) : (encs nmA l).length = l.length * 3 := encs_length l
/-- A stream. -/
structure St where
  told : List Nm
  over : Bool
  errno : Int
  cursor : Int
/-- What comes to a stream. -/
structure Ac where
  what : Int
  errno : Int
  inode : Int
  kind : Int
  links : Int
  size : Int
  bsz : Nat
  bn : Nat
  bcs : List AV
  btk : Tk
  text : List UInt8
  nsz : Nat
  names : List Nm
  ntk : Tk
  akey : Int
  key : Int
def Ac.ans (x : Ac) : List AV := [.int .i64 x.errno, .int .i64 x.inode, .int .i64 x.kind, .int .i64 x.links, .int .i64 x.size, .sl x.bsz x.bn x.bcs x.btk, .str (bs x.text), .sl x.nsz x.names.length (encs nmA x.names) x.ntk, .int .u64 x.akey]
def actA (x : Ac) : List AV := .int .i64 x.what :: (x.ans ++ [.int .u64 x.key])
instance : Even actA 11 := ⟨fun _ => rfl⟩
def Ac.ok (x : Ac) : Prop := (x.names ≠ [] → x.nsz = 3) ∧ x.ntk.hf = true ∧ x.btk.hf = true ∧ hfL x.bcs = true
def endsB (x : Ac) : Bool := !(x.errno == 0) || x.names.isEmpty
def takeM (s : St) (x : Ac) : St := if s.over then s else if endsB x then { s with over := true, errno := x.errno } else { s with told := s.told ++ x.names, cursor := x.akey }
def seekM (s : St) (key : Int) : St := { s with over := false, errno := 0, cursor := key }
end Go.Stm
