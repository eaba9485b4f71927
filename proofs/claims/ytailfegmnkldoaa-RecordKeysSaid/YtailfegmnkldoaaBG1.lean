/- WHAT slices.Concat COMES TO, ON PLAIN VALUES. Nothing is proved here. No condition. -/
import Derived.Test.YtailfegmnkldoaaAmDef
set_option linter.unusedSimpArgs false
set_option linter.unusedVariables false
set_option linter.unusedSectionVars false
namespace Go.Am
open Go
/-- Rows of one cell each, by their cells. -/
def rowsA : List AV → Option (List (List AV))
  | [] => some []
  | .sl s n cs _ :: r => if (n = 0 ∨ s = 1) ∧ n * 1 ≤ cs.length then (rowsA r).map (cs.take (n * 1) :: ·) else none
  | _ => none
def concC : List AV → Option PR
  | [.sl 1 n cs _] => match rowsA (cs.take n) with
    | some L => if 0 < n ∧ n ≤ cs.length ∧ n ≤ 4294967296 ∧ L.flatten.length ≤ 4294967296 then some (if L.flatten = [] then .plain (.sl 0 0 [] .z) else .fresh 1 (L.flatten.length / 1) L.flatten) else none
    | none => none
  | _ => none
end Go.Am
