/- WHAT THE LAWS OF NODES SHARE: works, num, lent. No condition but those stated. -/
import Derived.Test.YtailfegmnkldoaaNoM
import Derived.Test.YtailfegmnkldoaaSFuns
import Derived.KernelRfl
set_option linter.unusedSimpArgs false
set_option linter.unusedVariables false
set_option linter.unusedSectionVars false
namespace Go.Proofs.Ytailfegmnkldoaa
open Go Go.Am Go.Slots Go.Nod
set_option maxHeartbeats 2000000
set_option maxRecDepth 100000
def isTrueR : Option PR → Bool
  | some (.plain (.bool true)) => true
  | _ => false
theorem isTrueR_eq {o : Option PR} (h : isTrueR o = true) : o = some (.plain (.bool true)) := by
  unfold isTrueR at h
  split at h
  · rfl
  · cases h
theorem works_ev : isTrueR ((cbs tab 60).pc 20 []) = true := by kernel_rfl
theorem works_px (H : Heap) : pcx (cbL tab) 20 [] H = some (.plain (.bool true)) := pcx_N rfl (cbL_pc.2 ⟨60, isTrueR_eq works_ev⟩)
theorem num_px (e : Int) (H : Heap) : pcx (cbL tab) 26 [.int .i64 e] H = some (.plain (.int .i64 e)) := by
  refine pcx_N rfl (pc_wp (fi := c26) rfl rfl (by simp [c26]) (by decide) ?_)
  unfold c26
  simp (disch := omega) only [wk, avalE, aactE, evPE, boundE, asNat, bv_seql cellsEq_ii, bv_sneqd cellsEq_ii, readC, allOne, fillL, resE, tupled, ↓reduceIte, Nat.reduceEqDiff, Int.reduceEq, Int.reduceLT, Int.reduceLE, Nat.reduceAdd, Nat.reduceMul, Nat.reduceLT, Nat.reduceLeDiff, reduceCtorEq, lend_int, purify, unownT, lend, unown, AV.hf]
theorem lent_px (n : Nat) (cs : List AV) (tk : Tk) (H : Heap) (hn : n ≤ 80) (hl : cs.length = n) (hc : hfL cs = true) (h1 : allOne cs = true) : pcx (cbL tab) 22 [.sl 1 n cs tk] H = some (.plain (.sl 1 n (cs ++ [.int .u64 77]) .ro)) := by
  obtain ⟨u1, e1, f1⟩ := lend_sl 1 n cs tk
  refine pcx_N rfl (pc_wp (fi := c22) rfl ?_ (by simp [c22]) (by decide) ?_)
  · simp only [pcOn, List.map_cons, List.map_nil, hfL, hf_lend_sl, hf_lend_int, hf_lend_bool, hf_lend_str, hfL_append, Bool.and_self, Bool.and_true, Bool.true_and, c22, hc]
  unfold c22
  rw [List.map_cons, List.map_nil, e1]
  by_cases h0 : n = 0
  · subst h0
    have : cs = [] := List.length_eq_zero_iff.1 hl
    subst this
    have a1 : appV 1 8 (.sl 1 0 [] .e) (.sl 1 0 [] u1) [] = some (.val (.sl 1 0 [] .e), []) := rfl
    have a2 : appV 1 8 (.sl 1 0 [] .e) (.sl 1 1 [.int .u64 77] .ro) [] = some (.val (.sl 1 1 [.int .u64 77] (.own 0)), [.tok 1]) := rfl
    simp (disch := omega) only [wk, avalE, aactE, evPE, boundE, asNat, bv_seql cellsEq_ii, bv_sneqd cellsEq_ii, readC, allOne, fillL, resE, tupled, ↓reduceIte, Nat.reduceEqDiff, Int.reduceEq, Int.reduceLT, Int.reduceLE, Nat.reduceAdd, Nat.reduceMul, Nat.reduceLT, Nat.reduceLeDiff, reduceCtorEq, a1, a2, purify, unownT, lend, unown, AV.hf, hfL, Tk.hf]
  · have ht : cs.take n = cs := List.take_of_length_le (by omega)
    have a1 : appV 1 8 (.sl 1 0 [] .e) (.sl 1 n cs u1) [] = some (.val (.sl 1 n cs (.own 0)), [.tok 1]) := by
      have g1 : (0 + n) * 8 ≤ 70368744177664 := by omega
      have g2 : 0 + n ≤ 70368744177664 := by omega
      simp [appV, h0, ht, h1, hl]
      omega
    have a2 : appV 1 8 (.sl 1 n cs (.own 0)) (.sl 1 1 [.int .u64 77] .ro) [.tok 1] = some (.val (.sl 1 (n + 1) (cs ++ [.int .u64 77]) (.own 1)), [.dead, .tok 1]) := by
      have g1 : (n + 1) * 8 ≤ 70368744177664 := by omega
      have g2 : n + 1 ≤ 70368744177664 := by omega
      simp [appV, g1, g2, allOne, AV.one]
    have e4 : (cs ++ [AV.int .u64 77]).length = n + 1 := by simp [hl]
    simp (disch := omega) only [wk, avalE, aactE, evPE, boundE, asNat, bv_seql cellsEq_ii, bv_sneqd cellsEq_ii, readC, allOne, fillL, resE, tupled, ↓reduceIte, Nat.reduceEqDiff, Int.reduceEq, Int.reduceLT, Int.reduceLE, Nat.reduceAdd, Nat.reduceMul, Nat.reduceLT, Nat.reduceLeDiff, reduceCtorEq, a1, a2, e4, hfL_append, purify, unownT, lend, unown, AV.hf, hfL, Tk.hf, hc]
end Go.Proofs.Ytailfegmnkldoaa
