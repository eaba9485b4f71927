/- THE LAW NamesUnder COMES TO true. No condition but those stated. -/
import Derived.Test.YtmogflndepihnaaDoorK11
set_option linter.unusedSimpArgs false
set_option linter.unusedVariables false
set_option linter.unusedSectionVars false
namespace Go.Proofs.YtmogflndepihnaaDoor
open Go Go.Am Go.Rec Go.Nam
set_option maxHeartbeats 4000000
set_option maxRecDepth 10000
theorem namesUnder_pc {x y : AV} (h : OkS .str x) (h' : OkS .str y) : (cbL tab).pc 7 [x, y] = some (.plain (.bool true)) := by
  cases h with
  | str s hs =>
  cases h' with
  | str s' hs' =>
  have hb := bs_eta s
  generalize s.data.toList = p at hb
  subst hb
  have hb := bs_eta s'
  generalize s'.data.toList = d at hb
  subst hb
  refine pc_wp (fi := c7) rfl rfl (by simp [c7]) (by decide) ?_
  unfold c7
  rw [List.map_cons, List.map_cons, List.map_nil, lend_str, lend_str]
  by_cases h : 2000 < p.length
  · have h' : (2000 : Int) < (p.length : Nat) := by omega
    simp (disch := omega) only [wk, avalE, aactE, evPE, boundE, asNat, bv_seql cellsEq_ii, bv_sneqd cellsEq_ii, readC, allOne, fillL, resE, tupled, ↓reduceIte, Nat.reduceEqDiff, Int.reduceEq, Int.reduceLT, Int.reduceLE, Nat.reduceAdd, Nat.reduceMul, Nat.reduceLT, Nat.reduceLeDiff, reduceCtorEq, bs_size, h', works_px, purify, unownT, AV.hf]
  have h1 : ¬ (2000 : Int) < (p.length : Nat) := by omega
  by_cases hd : 2000 < d.length
  · have h' : (2000 : Int) < (d.length : Nat) := by omega
    simp (disch := omega) only [wk, avalE, aactE, evPE, boundE, asNat, bv_seql cellsEq_ii, bv_sneqd cellsEq_ii, readC, allOne, fillL, resE, tupled, ↓reduceIte, Nat.reduceEqDiff, Int.reduceEq, Int.reduceLT, Int.reduceLE, Nat.reduceAdd, Nat.reduceMul, Nat.reduceLT, Nat.reduceLeDiff, reduceCtorEq, bs_size, h1, h', works_px, purify, unownT, AV.hf]
  have h2 : ¬ (2000 : Int) < (d.length : Nat) := by omega
  have u1 := fun H => under_px p d (by omega) (by omega) H
  have u2 := fun H => runder_px p d (by omega) (by omega) H
  obtain ⟨b, e, hu⟩ : ∃ b e, underV p d = .tup [.bool b, .int .i64 e] := ⟨_, _, rfl⟩
  rw [hu] at u1 u2
  cases b <;> simp (disch := omega) only [wk, avalE, aactE, evPE, boundE, asNat, bv_seql cellsEq_ii, bv_sneqd cellsEq_ii, readC, allOne, fillL, resE, tupled, ↓reduceIte, Nat.reduceEqDiff, Int.reduceEq, Int.reduceLT, Int.reduceLE, Nat.reduceAdd, Nat.reduceMul, Nat.reduceLT, Nat.reduceLeDiff, reduceCtorEq, bs_size, h1, h2, u1, u2, num_px, works_px, purify, unownT, AV.hf]
end Go.Proofs.YtmogflndepihnaaDoor
