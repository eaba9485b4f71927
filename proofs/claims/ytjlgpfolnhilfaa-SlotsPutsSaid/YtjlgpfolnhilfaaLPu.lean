/- THE LAW SlotsPuts COMES TO true. -/
import Derived.Test.YtjlgpfolnhilfaaL1
import Derived.Test.YtjlgpfolnhilfaaSTab
import Derived.Test.YtjlgpfolnhilfaaS10
import Derived.Test.YtjlgpfolnhilfaaR6
set_option linter.unusedSimpArgs false
set_option linter.unusedVariables false
set_option linter.unusedSectionVars false
namespace Go.Proofs.Ytjlgpfolnhilfaa
open Go Go.Am Go.Slots
set_option maxHeartbeats 2000000
set_option maxRecDepth 10000
theorem slotsPuts_pc {x0 x1 : AV} {x2 : List AV} (h0 : OkS (.int .u64) x0) (h1 : OkS (.slice [.int .u64]) x1) (h2 : OkL [.int .u64, .int .u64] x2) : (cbL tab).pc 4 [x0, x1, .agg x2] = some (.plain (.bool true)) := by
  obtain ⟨left, rfl, _, _⟩ := ok_int h0
  obtain ⟨xs, tk, rfl, hn, _⟩ := ok_words h1
  obtain ⟨p, rfl, hp1, hp2⟩ := ok_pair h2
  have hu := hf_u64A xs
  obtain ⟨u1, e1, f1⟩ := lend_sl 1 xs.length (encs u64A xs) tk
  have ep : lend (.agg (pairA p)) = .agg (pairA p) := rfl
  refine pc_wp (fi := c4) rfl ?_ (by simp [c4]) (by decide) ?_
  · simp only [pcOn, List.map_cons, List.map_nil, hfL, hf_lend_sl, hf_lend_int, hf_lend_bool, hf_lend_str, hfL_append, Bool.and_self, Bool.and_true, Bool.true_and, c4, hu, ep]; rfl
  unfold c4
  rw [List.map_cons, List.map_cons, List.map_cons, List.map_nil, e1, lend_int, ep]
  by_cases hlen : 80 < xs.length
  · simp (disch := omega) only [wk1, wk2, wk3, wk4, wk5, wk6, avalE, aactE, evPE, boundE, asNat, Nat.zero_mul, Int.tdiv_eq_ediv_of_nonneg, Int.tmod_eq_emod_of_nonneg, List.length_append, Nat.mul_one, bv_seql cellsEq_ii, bv_sneqd cellsEq_ii, Bool.not_false, Bool.not_true, decide_eq_true_eq, Bool.not_eq_true, eq_self, ne_eq, and_true, true_and, and_self, not_true_eq_false, not_false_eq_true, if_true, if_false, decide_true, decide_false, Int.toNat_natCast, Int.natCast_nonneg, List.drop_zero, List.take_zero, List.take_succ_cons, List.drop_succ_cons, readC, allOne, Bool.and_self, Bool.and_true, Bool.true_and, fillL, beq_self_eq_true, Nat.one_mul, List.drop_nil, resE, tupled, List.map_nil, List.map_cons, Option.map_some, ↓reduceIte, Nat.reduceEqDiff, Int.reduceEq, Int.reduceLT, Int.reduceLE, Nat.reduceAdd, Nat.reduceMul, Nat.reduceLT, Nat.reduceLeDiff, reduceCtorEq, List.length_nil, List.length_cons, Nat.add_zero, Nat.sub_zero, List.nil_append, List.cons_append, List.getElem?_cons_zero, List.getElem?_cons_succ, List.set_cons_zero, List.set_cons_succ, pairA, works_px, purify, unownT, AV.hf]
  have hlp := fun H => lent_px xs.length (encs u64A xs) u1 H (by omega) (by rw [encs_length]; omega) hu (one_u64A xs)
  obtain ⟨m, ha, hb⟩ : ∃ m : List (Int × Int) × Int, (∀ H, pcx (cbL tab) 20 [.int .u64 left, .sl 1 xs.length (encs u64A xs ++ [.int .u64 77]) .ro, .agg (pairA p)] H = some (.plain (resT m))) ∧
      (∀ H, pcx (cbL tab) 22 [.int .u64 left, .sl 1 xs.length (encs u64A xs) u1, .agg (pairA p)] H = some (.plain (resT m))) ∧ m.1.length ≤ 1000 := by
    by_cases hr : right left xs.length ∧ p.2 ≠ 0 ∧ p.2 ≠ left
    · obtain ⟨hr, k1, k2⟩ := hr
      obtain ⟨q1, q2⟩ := pairUp_ok xs hr.2.1
      rw [q2] at hr
      refine ⟨Slots.putM left (pairUp xs) p, fun H => ?_, fun H => ?_, ?_⟩
      · rw [q1, q2]
        exact slotsput_yes left (pairUp xs) [.int .u64 77] .ro p H rfl hr k1 k2
      · rw [q1, q2]
        have := refput_yes left (pairUp xs) [] u1 p H rfl hr k1 k2
        rwa [row, List.append_nil] at this
      · unfold Slots.putM
        have := rdL_le left (pairUp xs)
        have h3 := hr.2.2.2
        have h4 := dnF_len (findL' p.1 (rdL left (pairUp xs))) ((rdL left (pairUp xs)).drop (findL' p.1 (rdL left (pairUp xs))))
        rw [List.length_drop] at h4
        split <;> (try split) <;> (try split) <;> simp <;> omega
    · refine ⟨([], 2), fun H => ?_, fun H => ?_, by simp⟩
      · exact slotsput_no left xs.length _ .ro p H hn (by rw [hfL_append, hu]; rfl) hr
      · exact refput_no left xs.length _ u1 p H hn hu hr
  obtain ⟨hb, hm⟩ := hb
  obtain ⟨s, tk', es, hz, htk⟩ := slvR_form 2 putA m.1
  have sp := fun H => pcx_N (H := H) rfl (samePuts_pc m.1 m.1 s s tk' tk' hz hz (by omega))
  simp only [resT, es, pairA] at ha hb
  simp (disch := omega) only [wk1, wk2, wk3, wk4, wk5, wk6, avalE, aactE, evPE, boundE, asNat, Nat.zero_mul, Int.tdiv_eq_ediv_of_nonneg, Int.tmod_eq_emod_of_nonneg, List.length_append, Nat.mul_one, bv_seql cellsEq_ii, bv_sneqd cellsEq_ii, Bool.not_false, Bool.not_true, decide_eq_true_eq, Bool.not_eq_true, eq_self, ne_eq, and_true, true_and, and_self, not_true_eq_false, not_false_eq_true, if_true, if_false, decide_true, decide_false, Int.toNat_natCast, Int.natCast_nonneg, List.drop_zero, List.take_zero, List.take_succ_cons, List.drop_succ_cons, readC, allOne, Bool.and_self, Bool.and_true, Bool.true_and, fillL, beq_self_eq_true, Nat.one_mul, List.drop_nil, resE, tupled, List.map_nil, List.map_cons, Option.map_some, ↓reduceIte, Nat.reduceEqDiff, Int.reduceEq, Int.reduceLT, Int.reduceLE, Nat.reduceAdd, Nat.reduceMul, Nat.reduceLT, Nat.reduceLeDiff, reduceCtorEq, List.length_nil, List.length_cons, Nat.add_zero, Nat.sub_zero, List.nil_append, List.cons_append, List.getElem?_cons_zero, List.getElem?_cons_succ, List.set_cons_zero, List.set_cons_succ, pairA, hlp, ha, hb, sp, num_px, works_px, purify, unownT, AV.hf]
end Go.Proofs.Ytjlgpfolnhilfaa
