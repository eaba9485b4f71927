/- WHAT names.joined COMES TO, ON PLAIN VALUES. Nothing is proved here. No condition. -/
import Derived.Test.YtmogflndepihnaaDoorAmDef
set_option linter.unusedSimpArgs false
set_option linter.unusedVariables false
set_option linter.unusedSectionVars false
namespace Go.Am
open Go
def strsA : List AV → Option (List ByteArray)
  | [] => some []
  | .str s :: r => (strsA r).map (s :: ·)
  | _ => none
def joinB (ss : List ByteArray) : List UInt8 := ss.flatMap fun s => 47 :: s.data.toList
def joinR (ss : List ByteArray) : ByteArray := if joinB ss = [] then ⟨#[47]⟩ else ⟨(joinB ss).toArray⟩
def joinC : List AV → Option PR
  | [.sl sz n cs _] => match strsA (cs.take n) with
    | some ss => if ss.length = n ∧ (n = 0 ∨ sz = 1) ∧ n ≤ 4294967296 ∧ (joinB ss).length ≤ 4294967296 then some (.plain (.str (joinR ss))) else none
    | none => none
  | _ => none
end Go.Am
