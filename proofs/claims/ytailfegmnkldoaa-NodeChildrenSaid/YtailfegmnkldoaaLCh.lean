/- THE LAW NodeChildren COMES TO true. -/
import Derived.Test.YtailfegmnkldoaaN7
import Derived.Test.YtailfegmnkldoaaNL
set_option linter.unusedSimpArgs false
set_option linter.unusedVariables false
set_option linter.unusedSectionVars false
namespace Go.Proofs.Ytailfegmnkldoaa
open Go Go.Am Go.Slots Go.Nod
set_option maxHeartbeats 2000000
set_option maxRecDepth 10000
theorem nodeChildren_pc {x0 x1 : AV} (h0 : OkS (.slice [.int .u64]) x0) (h1 : OkS (.int .u64) x1) : (cbL tab).pc 7 [x0, x1] = some (.plain (.bool true)) := by
  obtain ⟨xs, tk, rfl, hn, hx⟩ := ok_words h0
  obtain ⟨key, rfl, _, _⟩ := ok_int h1
  have hu := hf_u64A xs
  obtain ⟨u1, e1, f1⟩ := lend_sl 1 xs.length (encs u64A xs) tk
  refine pc_wp (fi := c7) rfl ?_ (by simp [c7]) (by decide) ?_
  · simp only [pcOn, List.map_cons, List.map_nil, hfL, hf_lend_sl, hf_lend_int, hf_lend_bool, hf_lend_str, hfL_append, Bool.and_self, Bool.and_true, Bool.true_and, c7, hu]
  unfold c7
  rw [List.map_cons, List.map_cons, List.map_nil, e1, lend_int]
  by_cases hlen : 70 < xs.length
  · simp (disch := omega) only [wk, avalE, aactE, evPE, boundE, asNat, bv_seql cellsEq_ii, bv_sneqd cellsEq_ii, readC, allOne, fillL, resE, tupled, ↓reduceIte, Nat.reduceEqDiff, Int.reduceEq, Int.reduceLT, Int.reduceLE, Nat.reduceAdd, Nat.reduceMul, Nat.reduceLT, Nat.reduceLeDiff, reduceCtorEq, works_px, purify, unownT, lend, unown, AV.hf]
  have hlp := fun H => lent_px xs.length (encs u64A xs) u1 H (by omega) (by rw [encs_length]; omega) hu (one_u64A xs)
  have hcl : hfL (encs u64A xs ++ [.int .u64 77]) = true := by rw [hfL_append, hu]; rfl
  obtain ⟨a, e, ha, hb⟩ : ∃ (a e : Int), (∀ H, pcx (cbL tab) 36 [.sl 1 xs.length (encs u64A xs ++ [.int .u64 77]) .ro, .int .u64 key] H = some (.plain (.tup [.int .i64 a, .int .i64 e]))) ∧
      (∀ H, pcx (cbL tab) 37 [.sl 1 xs.length (encs u64A xs) u1, .int .u64 key] H = some (.plain (.tup [.int .i64 a, .int .i64 e]))) := by
    by_cases h64 : xs.length = 64
    · obtain ⟨h, ps, k1, k2, k3, _⟩ := words_at xs hx h64
      have : ∃ a e, childR h ps key = .tup [.int .i64 a, .int .i64 e] := by
        unfold childR
        repeat' split
        all_goals exact ⟨_, _, rfl⟩
      obtain ⟨a, e, q⟩ := this
      refine ⟨a, e, fun H => ?_, fun H => ?_⟩
      · rw [h64, k1, words_rest, ← q]
        exact child_words h k3 ps k2 [.int .u64 77] .ro key H rfl
      · rw [h64, k1, ← q]
        exact refchild_words h k3 ps k2 [] u1 key H rfl
    · exact ⟨0, 210, fun H => child_len xs.length _ .ro key H hn hcl h64, fun H => refchild_len xs.length _ u1 key H hn hu h64⟩
  simp (disch := omega) only [wk, avalE, aactE, evPE, boundE, asNat, bv_seql cellsEq_ii, bv_sneqd cellsEq_ii, readC, allOne, fillL, resE, tupled, ↓reduceIte, Nat.reduceEqDiff, Int.reduceEq, Int.reduceLT, Int.reduceLE, Nat.reduceAdd, Nat.reduceMul, Nat.reduceLT, Nat.reduceLeDiff, reduceCtorEq, hlp, ha, hb, num_px, works_px, purify, unownT, lend, unown, AV.hf]
end Go.Proofs.Ytailfegmnkldoaa
