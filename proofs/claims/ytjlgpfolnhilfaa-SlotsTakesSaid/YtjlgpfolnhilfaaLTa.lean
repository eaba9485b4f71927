/- THE LAW SlotsTakes COMES TO true. -/
import Derived.Test.YtjlgpfolnhilfaaL1
import Derived.Test.YtjlgpfolnhilfaaSTab
import Derived.Test.YtjlgpfolnhilfaaS11
import Derived.Test.YtjlgpfolnhilfaaR5
set_option linter.unusedSimpArgs false
set_option linter.unusedVariables false
set_option linter.unusedSectionVars false
namespace Go.Proofs.Ytjlgpfolnhilfaa
open Go Go.Am Go.Slots
set_option maxHeartbeats 2000000
set_option maxRecDepth 10000
theorem slotsTakes_pc {x0 x1 x2 : AV} (h0 : OkS (.int .u64) x0) (h1 : OkS (.slice [.int .u64]) x1) (h2 : OkS (.int .u64) x2) : (cbL tab).pc 5 [x0, x1, x2] = some (.plain (.bool true)) := by
  obtain ⟨left, rfl, _, _⟩ := ok_int h0
  obtain ⟨xs, tk, rfl, hn, _⟩ := ok_words h1
  obtain ⟨key, rfl, _, _⟩ := ok_int h2
  have hu := hf_u64A xs
  obtain ⟨u1, e1, f1⟩ := lend_sl 1 xs.length (encs u64A xs) tk
  refine pc_wp (fi := c5) rfl ?_ (by simp [c5]) (by decide) ?_
  · simp only [pcOn, List.map_cons, List.map_nil, hfL, hf_lend_sl, hf_lend_int, hf_lend_bool, hf_lend_str, hfL_append, Bool.and_self, Bool.and_true, Bool.true_and, c5, hu]
  unfold c5
  rw [List.map_cons, List.map_cons, List.map_cons, List.map_nil, e1, lend_int, lend_int]
  by_cases hlen : 80 < xs.length
  · simp (disch := omega) only [wk1, wk2, wk3, wk4, wk5, wk6, avalE, aactE, evPE, boundE, asNat, Nat.zero_mul, Int.tdiv_eq_ediv_of_nonneg, Int.tmod_eq_emod_of_nonneg, List.length_append, Nat.mul_one, bv_seql cellsEq_ii, bv_sneqd cellsEq_ii, Bool.not_false, Bool.not_true, decide_eq_true_eq, Bool.not_eq_true, eq_self, ne_eq, and_true, true_and, and_self, not_true_eq_false, not_false_eq_true, if_true, if_false, decide_true, decide_false, Int.toNat_natCast, Int.natCast_nonneg, List.drop_zero, List.take_zero, List.take_succ_cons, List.drop_succ_cons, readC, allOne, Bool.and_self, Bool.and_true, Bool.true_and, fillL, beq_self_eq_true, Nat.one_mul, List.drop_nil, resE, tupled, List.map_nil, List.map_cons, Option.map_some, ↓reduceIte, Nat.reduceEqDiff, Int.reduceEq, Int.reduceLT, Int.reduceLE, Nat.reduceAdd, Nat.reduceMul, Nat.reduceLT, Nat.reduceLeDiff, reduceCtorEq, List.length_nil, List.length_cons, Nat.add_zero, Nat.sub_zero, List.nil_append, List.cons_append, List.getElem?_cons_zero, List.getElem?_cons_succ, List.set_cons_zero, List.set_cons_succ, pairA, works_px, purify, unownT, AV.hf]
  have hlp := fun H => lent_px xs.length (encs u64A xs) u1 H (by omega) (by rw [encs_length]; omega) hu (one_u64A xs)
  obtain ⟨m, ha, hb⟩ : ∃ m : List (Int × Int) × Int, (∀ H, pcx (cbL tab) 25 [.int .u64 left, .sl 1 xs.length (encs u64A xs ++ [.int .u64 77]) .ro, .int .u64 key] H = some (.plain (resT m))) ∧
      (∀ H, pcx (cbL tab) 26 [.int .u64 left, .sl 1 xs.length (encs u64A xs) u1, .int .u64 key] H = some (.plain (resT m))) ∧ m.1.length ≤ 1000 := by
    by_cases hr : right left xs.length
    · obtain ⟨q1, q2⟩ := pairUp_ok xs hr.2.1
      rw [q2] at hr
      refine ⟨takeM left (pairUp xs) key, fun H => ?_, fun H => ?_, ?_⟩
      · rw [q1, q2]
        exact slotstake_yes left (pairUp xs) [.int .u64 77] .ro key H rfl hr
      · rw [q1, q2]
        have := reftake_yes left (pairUp xs) [] u1 key H rfl hr
        rwa [row, List.append_nil] at this
      · unfold takeM
        have h3 := hr.2.2.2
        have h4 := rdL_le left (pairUp xs)
        have h5 := shF_len (findL' key (rdL left (pairUp xs))) ((rdL left (pairUp xs)).length - 1 - findL' key (rdL left (pairUp xs))) ((pairUp xs).drop (findL' key (rdL left (pairUp xs)) + 1))
        split <;> (try split) <;> simp [shiftM] <;> omega
    · refine ⟨([], 2), fun H => ?_, fun H => ?_, by simp⟩
      · exact slotstake_no left xs.length _ .ro key H hn (by rw [hfL_append, hu]; rfl) hr
      · exact reftake_no left xs.length _ u1 key H hn hu hr
  obtain ⟨hb, hm⟩ := hb
  obtain ⟨s, tk', es, hz, htk⟩ := slvR_form 2 putA m.1
  have sp := fun H => pcx_N (H := H) rfl (samePuts_pc m.1 m.1 s s tk' tk' hz hz (by omega))
  simp only [resT, es, pairA] at ha hb
  simp (disch := omega) only [wk1, wk2, wk3, wk4, wk5, wk6, avalE, aactE, evPE, boundE, asNat, Nat.zero_mul, Int.tdiv_eq_ediv_of_nonneg, Int.tmod_eq_emod_of_nonneg, List.length_append, Nat.mul_one, bv_seql cellsEq_ii, bv_sneqd cellsEq_ii, Bool.not_false, Bool.not_true, decide_eq_true_eq, Bool.not_eq_true, eq_self, ne_eq, and_true, true_and, and_self, not_true_eq_false, not_false_eq_true, if_true, if_false, decide_true, decide_false, Int.toNat_natCast, Int.natCast_nonneg, List.drop_zero, List.take_zero, List.take_succ_cons, List.drop_succ_cons, readC, allOne, Bool.and_self, Bool.and_true, Bool.true_and, fillL, beq_self_eq_true, Nat.one_mul, List.drop_nil, resE, tupled, List.map_nil, List.map_cons, Option.map_some, ↓reduceIte, Nat.reduceEqDiff, Int.reduceEq, Int.reduceLT, Int.reduceLE, Nat.reduceAdd, Nat.reduceMul, Nat.reduceLT, Nat.reduceLeDiff, reduceCtorEq, List.length_nil, List.length_cons, Nat.add_zero, Nat.sub_zero, List.nil_append, List.cons_append, List.getElem?_cons_zero, List.getElem?_cons_succ, List.set_cons_zero, List.set_cons_succ, pairA, hlp, ha, hb, sp, num_px, works_px, purify, unownT, AV.hf]
end Go.Proofs.Ytjlgpfolnhilfaa
