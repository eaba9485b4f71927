/- THE LAW NamesShorts COMES TO true. No condition but those stated. -/
import Derived.Test.YtmogflndepihnaaDoorK8
import Derived.Test.YtmogflndepihnaaDoorAmOpen
set_option linter.unusedSimpArgs false
set_option linter.unusedVariables false
set_option linter.unusedSectionVars false
namespace Go.Proofs.YtmogflndepihnaaDoor
open Go Go.Am Go.Rec Go.Nam
set_option maxHeartbeats 4000000
set_option maxRecDepth 10000
theorem splitV_form (l : List UInt8) : ∃ d n e, splitV l = .tup [.str d, .str n, .int .i64 e] := by
  unfold splitV
  split
  · split
    · exact ⟨_, _, _, rfl⟩
    · split
      · exact ⟨_, _, _, rfl⟩
      · exact ⟨_, _, _, rfl⟩
  · exact ⟨_, _, _, rfl⟩
theorem namesShorts_pc {x : AV} (h : OkS .str x) : (cbL tab).pc 6 [x] = some (.plain (.bool true)) := by
  cases h with
  | str s hs =>
  have hb := bs_eta s
  generalize s.data.toList = l at hb
  subst hb
  refine pc_wp (fi := c6) rfl rfl (by simp [c6]) (by decide) ?_
  unfold c6
  rw [List.map_cons, List.map_nil, lend_str]
  by_cases h : 2000 < l.length
  · have h' : (2000 : Int) < (l.length : Nat) := by omega
    simp (disch := omega) only [wk, avalE, aactE, evPE, boundE, asNat, bv_seql cellsEq_ii, bv_sneqd cellsEq_ii, readC, allOne, fillL, resE, tupled, ↓reduceIte, Nat.reduceEqDiff, Int.reduceEq, Int.reduceLT, Int.reduceLE, Nat.reduceAdd, Nat.reduceMul, Nat.reduceLT, Nat.reduceLeDiff, reduceCtorEq, bs_size, h', works_px, purify, unownT, AV.hf]
  have h' : ¬ (2000 : Int) < (l.length : Nat) := by omega
  have sp := fun H => short_px l (by omega) H
  have rp := fun H => rparts_px l (by omega) H
  have p1 := fun H => split_px l (by omega) H
  have p2 := fun H => rsplit_px l (by omega) H
  obtain ⟨d, n, e, hf⟩ := splitV_form l
  rw [hf] at p1 p2
  unfold shortV at sp
  unfold rpartsV partsM at rp
  by_cases he : partsE l = 0
  · obtain ⟨b1, b2, b3⟩ := cut_small he
    simp only [he, if_true] at sp rp
    obtain ⟨s0, t0, k1, k2, k3⟩ := slvR_form 1 strA (cutP l)
    rw [k1] at rp
    have j := fun H => rjoined_px (cutP l) s0 (encs strA (cutP l)) t0 ⟨[], by simp, rfl⟩ k2 (by omega) (by omega) H
    simp (disch := omega) only [wk, avalE, aactE, evPE, boundE, asNat, bv_seql cellsEq_ii, bv_sneqd cellsEq_ii, readC, allOne, fillL, resE, tupled, ↓reduceIte, Nat.reduceEqDiff, Int.reduceEq, Int.reduceLT, Int.reduceLE, Nat.reduceAdd, Nat.reduceMul, Nat.reduceLT, Nat.reduceLeDiff, reduceCtorEq, bs_size, h', sp, rp, p1, p2, num_px, strne', bv_streq, j, works_px, purify, unownT, AV.hf]
  · rw [if_neg he] at sp rp
    have sv : slvR 1 strA ([] : List (List UInt8)) = .sl 0 0 [] .z := rfl
    rw [sv] at rp
    unfold eS at sp
    simp (disch := omega) only [wk, avalE, aactE, evPE, boundE, asNat, bv_seql cellsEq_ii, bv_sneqd cellsEq_ii, readC, allOne, fillL, resE, tupled, ↓reduceIte, Nat.reduceEqDiff, Int.reduceEq, Int.reduceLT, Int.reduceLE, Nat.reduceAdd, Nat.reduceMul, Nat.reduceLT, Nat.reduceLeDiff, reduceCtorEq, bs_size, h', sp, rp, p1, p2, num_px, he, strne', bv_streq, works_px, purify, unownT, AV.hf]
end Go.Proofs.YtmogflndepihnaaDoor
