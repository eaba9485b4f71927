/- WHAT slices.Insert COMES TO, AT THE HEAD OF A ROW IN MEMORY OF TWO CELLS EACH. Nothing is proved here. No condition. -/
import Derived.Test.YtailfegmnkldoaaAmDef
set_option linter.unusedSimpArgs false
set_option linter.unusedVariables false
set_option linter.unusedSectionVars false
namespace Go.Am
open Go
def insC : List AV → Heap → Option (Out × Heap)
  | [.rsl 2 id n, .int .i64 0, .sl 2 m ds .ro], H => match H[id]? with
    | some (.cells cs) => if cs.length = n * 2 ∧ 0 < n ∧ 0 < m ∧ m * 2 ≤ ds.length ∧ allOne cs = true ∧ allOne (ds.take (m * 2)) = true ∧ n + m ≤ 4294967296 then
        some (.ret (.rsl 2 H.length (n + m)), H.set id .dead ++ [.cells (ds.take (m * 2) ++ cs)]) else none
    | _ => none
  | _, _ => none
end Go.Am
