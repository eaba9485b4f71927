/- THE WALKS OF Lay. No condition but those stated. -/
import Derived.Test.YtailfegmnkldoaaR3
set_option linter.unusedSimpArgs false
set_option linter.unusedVariables false
set_option linter.unusedSectionVars false
namespace Go.Proofs.Ytailfegmnkldoaa
open Go Go.Am Go.Rec
set_option maxHeartbeats 2000000
set_option maxRecDepth 10000
theorem tdrop (q : List UInt8) (b : UInt8) (r : List UInt8) : List.drop (q.length * 1) (encs byA (q ++ b :: r)) = .int .u8 (b.toNat : Nat) :: encs byA r := by
  rw [drop_pre, encs_cons]; rfl
theorem word_px (l : List UInt8) (tk : Tk) (H : Heap) (hn : l.length ≤ 1000) : pcx (cbL tab) 168 [.sl 1 l.length (encs byA l) tk] H = some (.plain (.int .u64 (wordM (l.take 8)))) := by
  obtain ⟨u1, e1, f1⟩ := lend_sl 1 l.length (encs byA l) tk
  refine pcx_N rfl (pc_wp (fi := c168) rfl ?_ (by simp [c168]) (by decide) ?_)
  · simp only [pcOn, List.map_cons, List.map_nil, hfL, hf_lend_sl, hf_lend_int, hf_lend_bool, hf_lend_str, hfL_append, Bool.and_self, Bool.and_true, Bool.true_and, c168, hf_byA]
  unfold c168
  rw [List.map_cons, List.map_nil, e1]
  have hq : (l.take 8).length = min 8 l.length := List.length_take
  have e : (if (l.length : Int) < 8 then (l.length : Int) else 8) = ((l.take 8).length : Int) := by split <;> omega
  have ll : l = l.take 8 ++ l.drop 8 := (List.take_append_drop 8 l).symm
  have hw8 := wordM_u64 (l := l.take 8) (by omega)
  simp (disch := omega) only [wk, avalE, aactE, evPE, boundE, asNat, bv_seql cellsEq_ii, bv_sneqd cellsEq_ii, readC, allOne, fillL, resE, tupled, ↓reduceIte, Nat.reduceEqDiff, Int.reduceEq, Int.reduceLT, Int.reduceLE, Nat.reduceAdd, Nat.reduceMul, Nat.reduceLT, Nat.reduceLeDiff, reduceCtorEq, e]
  refine loop_ind (fun (x : List UInt8 × List UInt8) E df H => l.take 8 = x.1 ++ x.2 ∧ E 0 = .sl 1 l.length (encs byA l) u1 ∧ E 3 = .int .u64 (wordM x.2) ∧ E 4 = .int .i64 ((x.1.length : Int) - 1) ∧ df = [] ∧ H = [])
    (fun x => x.1.length) (l.take 8, []) (by decide) (.inl rfl) ⟨by simp, rfl, rfl, rfl, rfl, rfl⟩ ?_
  intro ⟨pre, suf⟩ E df H ih hP
  obtain ⟨a1, E0, E3, E4, hdf, hH⟩ := hP
  dsimp only at a1 E3 E4
  subst hdf hH
  have hq2 := hq
  rw [a1, List.length_append] at hq2
  rcases List.eq_nil_or_concat pre with rfl | ⟨q, b, rfl⟩
  · have n0 : ¬ (0 : Int) ≤ ((([] : List UInt8).length : Nat) : Int) - 1 := by simp
    rw [List.nil_append] at a1
    rw [← a1] at E3
    simp (disch := omega) only [wk, avalE, aactE, evPE, boundE, asNat, bv_seql cellsEq_ii, bv_sneqd cellsEq_ii, readC, allOne, fillL, resE, tupled, ↓reduceIte, Nat.reduceEqDiff, Int.reduceEq, Int.reduceLT, Int.reduceLE, Nat.reduceAdd, Nat.reduceMul, Nat.reduceLT, Nat.reduceLeDiff, reduceCtorEq, E0, E3, E4, n0, purify, unownT, lend, AV.hf]
  · rw [List.concat_eq_append] at *
    simp only [List.length_append, List.length_singleton] at hq2 E4
    have i1 : ((q.length + 1 : Nat) : Int) - 1 = (q.length : Int) := by omega
    rw [i1] at E4
    have n0 : (0 : Int) ≤ (q.length : Int) := by omega
    have d : List.drop (q.length * 1) (encs byA l) = .int .u8 (b.toNat : Nat) :: encs byA (suf ++ l.drop 8) := by
      have : l = q ++ b :: (suf ++ l.drop 8) := by
        have := ll; rw [a1] at this; simpa using this
      conv => lhs; rw [this]
      exact tdrop _ _ _
    rw [Nat.mul_one] at d
    have hb := u8_lt b
    have hb0 : (0 : Int) ≤ (b.toNat : Int) := by omega
    have w0 := wordM_nonneg suf
    have w1 : (b.toNat : Int) + 256 * wordM suf < 18446744073709551616 := wordM_u64 (l := b :: suf) (by simp; omega)
    have ln : (q.length : Int) < (l.length : Int) := by omega
    simp (disch := omega) only [wk, avalE, aactE, evPE, boundE, asNat, bv_seql cellsEq_ii, bv_sneqd cellsEq_ii, readC, allOne, fillL, resE, tupled, ↓reduceIte, Nat.reduceEqDiff, Int.reduceEq, Int.reduceLT, Int.reduceLE, Nat.reduceAdd, Nat.reduceMul, Nat.reduceLT, Nat.reduceLeDiff, reduceCtorEq, E0, E3, E4, n0, d, ln]
    refine ih (q, b :: suf) _ _ _ (by simp) ?_
    exact ⟨by simp [a1], by simp only [en, ↓reduceIte, Nat.reduceEqDiff, E0], by simp only [en, ↓reduceIte, Nat.reduceEqDiff, wordM, Int.add_comm], by simp only [en, ↓reduceIte, Nat.reduceEqDiff], rfl, rfl⟩
theorem lay_step (l : List UInt8) (k : Nat) (h : 8 * k < l.length) : layM (l.take (8 * (k + 1))) = layM (l.take (8 * k)) ++ [wordM ((l.drop (8 * k)).take 8)] := by
  have e : 8 * (k + 1) = 8 * k + 8 := by omega
  rw [e, List.take_add, layM_append _ k _ (by rw [List.length_take]; omega)]
  have h0 : (l.drop (8 * k)).take 8 ≠ [] := by
    intro e
    have := congrArg List.length e
    rw [List.length_take, List.length_drop, List.length_nil] at this
    omega
  rw [layM_short h0 (by rw [List.length_take]; omega)]
end Go.Proofs.Ytailfegmnkldoaa
