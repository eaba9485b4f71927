/- THE WALKS OF Of. No condition but those stated. -/
import Derived.Test.YtncmflmjlocgiaaR8
set_option linter.unusedSimpArgs false
set_option linter.unusedVariables false
set_option linter.unusedSectionVars false
namespace Go.Proofs.Ytncmflmjlocgiaa
open Go Go.Am Go.Rec
set_option maxHeartbeats 2000000
set_option maxRecDepth 10000
def emptyS : ByteArray := ByteArray.mk (Array.mk [])
def ofR (w : List Int) : (Int × ByteArray) × Int := if isM w then ((headM w, textM w), 0) else ((0, emptyS), 250)
def resO (x : (Int × ByteArray) × Int) : AV := .tup [recV x.1.1 x.1.2, .int .i64 x.2]
/-- The text of a record of words, as it is read. -/
def textB (w : List Int) : ByteArray := ⟨((bytM (w.drop 1)).take (w.headD 0 / 65536 % 256).toNat).toArray⟩
theorem textB_eq {w : List Int} (h0 : 0 ≤ w.headD 0) (h : w.headD 0 / 65536 ≤ 120) : textB w = textM w := by
  unfold textB textM
  have : w.headD 0 / 65536 % 256 = w.headD 0 / 65536 := by omega
  rw [this]
theorem isM_B (w : List Int) (h16 : w.length = 16) (h0 : 0 ≤ w.headD 0) : isM w ↔ w.headD 0 / 65536 % 256 ≤ 120 ∧ recOk (headM w) (textB w) ∧ wordsM (headM w) (textB w) = w := by
  constructor
  · rintro ⟨_, h2, h3, h4⟩
    rw [textB_eq h0 h2]
    exact ⟨by omega, h3, h4⟩
  · rintro ⟨h2, h3, h4⟩
    have hs : (textB w).size = (w.headD 0 / 65536 % 256).toNat := by
      simp only [textB, ByteArray.size, List.size_toArray, List.length_take, bytM_len, List.length_drop, h16]
      omega
    have h5 : w.headD 0 = headM w + 65536 * ((textB w).size : Int) := by
      conv => lhs; rw [← h4]
      rw [wordsM_cons]; rfl
    have h6 : w.headD 0 / 65536 ≤ 120 := by
      have h7 : headM w = w.headD 0 % 65536 := rfl
      omega
    rw [textB_eq h0 h6] at h3 h4
    exact ⟨h16, h6, h3, h4⟩
theorem unb (l : List UInt8) (m : Nat) : unbytes (List.take m (encs byA l)) = some (l.take m) := by
  have := encs_take (f := byA) l m
  rw [Nat.mul_one] at this
  rw [this, unbytes_encs]
theorem rof_pc (w : List Int) (rest : List AV) (s : Nat) (tk : Tk) (H : Heap) (hn : w.length ≤ 1000) (hz : w ≠ [] → s = 1) (ht : tk.hf = true) (hr : hfL rest = true) (hw : ∀ x ∈ w, 0 ≤ x ∧ x < 18446744073709551616) :
    (cbL tab).pc 21 [.sl s w.length (encs u64A w ++ rest) tk] = some (.plain (resO (ofR w))) := by
  obtain ⟨u1, e1, f1⟩ := lend_sl s w.length (encs u64A w ++ rest) tk
  refine pc_wp (fi := c21) rfl ?_ (by simp [c21]) (by decide) ?_
  · simp only [pcOn, List.map_cons, List.map_nil, hfL, hf_lend_sl, hf_lend_int, hf_lend_bool, hf_lend_str, hfL_append, Bool.and_self, Bool.and_true, Bool.true_and, c21, hf_u64A, hr, AV.hf, ht]
  unfold c21
  rw [List.map_cons, List.map_nil, e1]
  have rn : ofR w = if isM w then ((headM w, textM w), 0) else ((0, emptyS), 250) := rfl
  by_cases h16 : w.length = 16
  case neg =>
    have hi : ¬ isM w := fun h => h16 h.1
    have h16' : ¬ (w.length : Int) = 16 := by omega
    simp (disch := omega) only [wk1, wk2, wk3, wk4, wk5, wk6, avalE, aactE, evPE, boundE, asNat, Nat.zero_mul, Int.tdiv_eq_ediv_of_nonneg, Int.tmod_eq_emod_of_nonneg, List.length_append, Nat.mul_one, bv_seql cellsEq_ii, bv_sneqd cellsEq_ii, Bool.not_false, Bool.not_true, decide_eq_true_eq, Bool.not_eq_true, eq_self, ne_eq, and_true, true_and, and_self, not_true_eq_false, not_false_eq_true, if_true, if_false, decide_true, decide_false, Int.toNat_natCast, Int.natCast_nonneg, List.drop_zero, List.take_zero, List.take_succ_cons, List.drop_succ_cons, readC, allOne, Bool.and_self, Bool.and_true, Bool.true_and, fillL, beq_self_eq_true, Nat.one_mul, List.drop_nil, resE, tupled, List.map_nil, List.map_cons, Option.map_some, ↓reduceIte, Nat.reduceEqDiff, Int.reduceEq, Int.reduceLT, Int.reduceLE, Nat.reduceAdd, Nat.reduceMul, Nat.reduceLT, Nat.reduceLeDiff, reduceCtorEq, List.length_nil, List.length_cons, Nat.add_zero, Nat.sub_zero, List.nil_append, List.cons_append, List.getElem?_cons_zero, List.getElem?_cons_succ, List.set_cons_zero, List.set_cons_succ, h16']
    rw [ret_scp_goto rfl]
    refine ret_again (by decide) (.inl rfl) ?_
    simp (disch := omega) only [wk1, wk2, wk3, wk4, wk5, wk6, avalE, aactE, evPE, boundE, asNat, Nat.zero_mul, Int.tdiv_eq_ediv_of_nonneg, Int.tmod_eq_emod_of_nonneg, List.length_append, Nat.mul_one, bv_seql cellsEq_ii, bv_sneqd cellsEq_ii, Bool.not_false, Bool.not_true, decide_eq_true_eq, Bool.not_eq_true, eq_self, ne_eq, and_true, true_and, and_self, not_true_eq_false, not_false_eq_true, if_true, if_false, decide_true, decide_false, Int.toNat_natCast, Int.natCast_nonneg, List.drop_zero, List.take_zero, List.take_succ_cons, List.drop_succ_cons, readC, allOne, Bool.and_self, Bool.and_true, Bool.true_and, fillL, beq_self_eq_true, Nat.one_mul, List.drop_nil, resE, tupled, List.map_nil, List.map_cons, Option.map_some, ↓reduceIte, Nat.reduceEqDiff, Int.reduceEq, Int.reduceLT, Int.reduceLE, Nat.reduceAdd, Nat.reduceMul, Nat.reduceLT, Nat.reduceLeDiff, reduceCtorEq, List.length_nil, List.length_cons, Nat.add_zero, Nat.sub_zero, List.nil_append, List.cons_append, List.getElem?_cons_zero, List.getElem?_cons_succ, List.set_cons_zero, List.set_cons_succ, rn, hi, resO, recV, purify, unownT, unown, AV.hf, hfL]
    rfl
  obtain ⟨x0, r, rfl⟩ : ∃ x0 r, w = x0 :: r := by
    cases w with
    | nil => simp at h16
    | cons x r => exact ⟨x, r, rfl⟩
  obtain rfl := hz (by simp)
  have hx := hw x0 (by simp)
  have hr16 : r.length = 15 := by simpa using h16
  have h16' : ((x0 :: r).length : Int) = 16 := by omega
  have hM := isM_B (x0 :: r) h16 hx.1
  simp only [List.headD_cons] at hM
  have f0 := fun H => field0_px x0 hx.1 hx.2 H
  have f1 := fun H => field16_px x0 hx.1 hx.2 H
  have ec : encs u64A (x0 :: r) ++ rest = .int .u64 x0 :: (encs u64A r ++ rest) := rfl
  have i1 : (1 : Int).toNat = 1 := rfl
  have i15 : 16 - 1 = 15 := rfl
  have i16 : 1 ≤ 16 := by decide
  have hl15 : 15 ≤ (encs u64A r).length + rest.length := by rw [lenU]; omega
  have hd0 : headM (x0 :: r) = x0 % 65536 := rfl
  by_cases hm : x0 / 65536 % 256 ≤ 120
  case neg =>
    have hi : ¬ isM (x0 :: r) := fun h => hm (hM.1 h).1
    have hm' : 120 < x0 / 65536 % 256 := by omega
    simp (disch := omega) only [wk1, wk2, wk3, wk4, wk5, wk6, avalE, aactE, evPE, boundE, asNat, Nat.zero_mul, Int.tdiv_eq_ediv_of_nonneg, Int.tmod_eq_emod_of_nonneg, List.length_append, Nat.mul_one, bv_seql cellsEq_ii, bv_sneqd cellsEq_ii, Bool.not_false, Bool.not_true, decide_eq_true_eq, Bool.not_eq_true, eq_self, ne_eq, and_true, true_and, and_self, not_true_eq_false, not_false_eq_true, if_true, if_false, decide_true, decide_false, Int.toNat_natCast, Int.natCast_nonneg, List.drop_zero, List.take_zero, List.take_succ_cons, List.drop_succ_cons, readC, allOne, Bool.and_self, Bool.and_true, Bool.true_and, fillL, beq_self_eq_true, Nat.one_mul, List.drop_nil, resE, tupled, List.map_nil, List.map_cons, Option.map_some, ↓reduceIte, Nat.reduceEqDiff, Int.reduceEq, Int.reduceLT, Int.reduceLE, Nat.reduceAdd, Nat.reduceMul, Nat.reduceLT, Nat.reduceLeDiff, reduceCtorEq, List.length_nil, List.length_cons, Nat.add_zero, Nat.sub_zero, List.nil_append, List.cons_append, List.getElem?_cons_zero, List.getElem?_cons_succ, List.set_cons_zero, List.set_cons_succ, u64A, Int.toNat_zero, i1, i15, i16, hl15, h16', hr16, f0, f1, hm']
    rw [ret_scp_goto rfl]
    refine ret_again (by decide) (.inl rfl) ?_
    simp (disch := omega) only [wk1, wk2, wk3, wk4, wk5, wk6, avalE, aactE, evPE, boundE, asNat, Nat.zero_mul, Int.tdiv_eq_ediv_of_nonneg, Int.tmod_eq_emod_of_nonneg, List.length_append, Nat.mul_one, bv_seql cellsEq_ii, bv_sneqd cellsEq_ii, Bool.not_false, Bool.not_true, decide_eq_true_eq, Bool.not_eq_true, eq_self, ne_eq, and_true, true_and, and_self, not_true_eq_false, not_false_eq_true, if_true, if_false, decide_true, decide_false, Int.toNat_natCast, Int.natCast_nonneg, List.drop_zero, List.take_zero, List.take_succ_cons, List.drop_succ_cons, readC, allOne, Bool.and_self, Bool.and_true, Bool.true_and, fillL, beq_self_eq_true, Nat.one_mul, List.drop_nil, resE, tupled, List.map_nil, List.map_cons, Option.map_some, ↓reduceIte, Nat.reduceEqDiff, Int.reduceEq, Int.reduceLT, Int.reduceLE, Nat.reduceAdd, Nat.reduceMul, Nat.reduceLT, Nat.reduceLeDiff, reduceCtorEq, List.length_nil, List.length_cons, Nat.add_zero, Nat.sub_zero, List.nil_append, List.cons_append, List.getElem?_cons_zero, List.getElem?_cons_succ, List.set_cons_zero, List.set_cons_succ, rn, hi, resO, recV, purify, unownT, unown, AV.hf, hfL]
    rfl
  have hm' : ¬ 120 < x0 / 65536 % 256 := by omega
  have m0 : 0 ≤ x0 / 65536 % 256 := by omega
  have b1 := fun H => bytes_px r rest 1 .ro H (by omega) rfl hr (fun x hx => hw x (by simp [hx]))
  rw [hr16] at b1
  have lB : (bytM r).length = 120 := by rw [bytM_len, hr16]
  have lC : (encs byA (bytM r)).length = 120 := by rw [encs_length (k := 1), lB]
  have nB : bytM r ≠ [] := by intro e; rw [e] at lB; cases lB
  have pB : prRow 1 byA (bytM r) = .fresh 1 120 (encs byA (bytM r)) := by rw [prRow_ne nB, lB]
  have eT : ByteArray.mk (List.toArray ((bytM r).take (x0 / 65536 % 256).toNat)) = textB (x0 :: r) := rfl
  have mle : (x0 / 65536 % 256).toNat ≤ 120 := by omega
  have hsl : ∀ g, (if (x0 / 65536 % 256).toNat = 120 then AV.sl 1 120 (encs byA (bytM r)) (.own g) else .sl 1 (x0 / 65536 % 256).toNat (encs byA (bytM r)) .ro) = .sl 1 (x0 / 65536 % 256).toNat (encs byA (bytM r)) (if (x0 / 65536 % 256).toNat = 120 then .own g else .ro) := by
    intro g
    split
    · rename_i h; rw [h]
    · rfl
  have wp := fun H => words_px (x0 % 65536) (textB (x0 :: r)) H
  simp only [recV] at wp
  have wR : wordsR (x0 % 65536) (textB (x0 :: r)) = if recOk (x0 % 65536) (textB (x0 :: r)) then (wordsM (x0 % 65536) (textB (x0 :: r)), 0) else ([], 250) := rfl
  rw [hd0] at hM
  by_cases hk : recOk (x0 % 65536) (textB (x0 :: r))
  case neg =>
    have hi : ¬ isM (x0 :: r) := fun h => hk (hM.1 h).2.1
    simp (disch := omega) only [wk1, wk2, wk3, wk4, wk5, wk6, avalE, aactE, evPE, boundE, asNat, Nat.zero_mul, Int.tdiv_eq_ediv_of_nonneg, Int.tmod_eq_emod_of_nonneg, List.length_append, Nat.mul_one, bv_seql cellsEq_ii, bv_sneqd cellsEq_ii, Bool.not_false, Bool.not_true, decide_eq_true_eq, Bool.not_eq_true, eq_self, ne_eq, and_true, true_and, and_self, not_true_eq_false, not_false_eq_true, if_true, if_false, decide_true, decide_false, Int.toNat_natCast, Int.natCast_nonneg, List.drop_zero, List.take_zero, List.take_succ_cons, List.drop_succ_cons, readC, allOne, Bool.and_self, Bool.and_true, Bool.true_and, fillL, beq_self_eq_true, Nat.one_mul, List.drop_nil, resE, tupled, List.map_nil, List.map_cons, Option.map_some, ↓reduceIte, Nat.reduceEqDiff, Int.reduceEq, Int.reduceLT, Int.reduceLE, Nat.reduceAdd, Nat.reduceMul, Nat.reduceLT, Nat.reduceLeDiff, reduceCtorEq, List.length_nil, List.length_cons, Nat.add_zero, Nat.sub_zero, List.nil_append, List.cons_append, List.getElem?_cons_zero, List.getElem?_cons_succ, List.set_cons_zero, List.set_cons_succ, u64A, Int.toNat_zero, i1, i15, i16, hl15, h16', hr16, f0, f1, hm', b1, pB, lC, mle, hsl, unb, eT, wp, wR, hk, resW, Nat.le_add_left, Nat.le_add_right, true_or, Nat.zero_le]
    rw [ret_scp_goto rfl]
    refine ret_again (by decide) (.inl rfl) ?_
    simp (disch := omega) only [wk1, wk2, wk3, wk4, wk5, wk6, avalE, aactE, evPE, boundE, asNat, Nat.zero_mul, Int.tdiv_eq_ediv_of_nonneg, Int.tmod_eq_emod_of_nonneg, List.length_append, Nat.mul_one, bv_seql cellsEq_ii, bv_sneqd cellsEq_ii, Bool.not_false, Bool.not_true, decide_eq_true_eq, Bool.not_eq_true, eq_self, ne_eq, and_true, true_and, and_self, not_true_eq_false, not_false_eq_true, if_true, if_false, decide_true, decide_false, Int.toNat_natCast, Int.natCast_nonneg, List.drop_zero, List.take_zero, List.take_succ_cons, List.drop_succ_cons, readC, allOne, Bool.and_self, Bool.and_true, Bool.true_and, fillL, beq_self_eq_true, Nat.one_mul, List.drop_nil, resE, tupled, List.map_nil, List.map_cons, Option.map_some, ↓reduceIte, Nat.reduceEqDiff, Int.reduceEq, Int.reduceLT, Int.reduceLE, Nat.reduceAdd, Nat.reduceMul, Nat.reduceLT, Nat.reduceLeDiff, reduceCtorEq, List.length_nil, List.length_cons, Nat.add_zero, Nat.sub_zero, List.nil_append, List.cons_append, List.getElem?_cons_zero, List.getElem?_cons_succ, List.set_cons_zero, List.set_cons_succ, rn, hi, resO, recV, purify, unownT, unown, AV.hf, hfL]
    rfl
  have hs := nameM_size hk.2.2
  have h16b : (wordsM (x0 % 65536) (textB (x0 :: r))).length = 16 := wordsM_len hs
  have wne : wordsM (x0 % 65536) (textB (x0 :: r)) ≠ [] := by intro e; rw [e] at h16b; cases h16b
  have sv : slvR 1 u64A (wordsM (x0 % 65536) (textB (x0 :: r))) = .sl 1 16 (encs u64A (wordsM (x0 % 65536) (textB (x0 :: r)))) .ro := by
    unfold slvR
    have : (wordsM (x0 % 65536) (textB (x0 :: r))).isEmpty = false := by
      cases h : wordsM (x0 % 65536) (textB (x0 :: r)) with
      | nil => exact absurd h wne
      | cons _ _ => rfl
    rw [this, h16b]; rfl
  have eq := fun H => equal_px (wordsM (x0 % 65536) (textB (x0 :: r))) (x0 :: r) [] rest 1 1 .ro u1 H (by omega) (by omega) (fun _ => rfl) (fun _ => rfl) rfl hr
  simp only [encs_cons, u64A, List.cons_append, List.nil_append, List.append_nil, List.length_cons, hr16, h16b] at eq
  by_cases hw2 : wordsM (x0 % 65536) (textB (x0 :: r)) = x0 :: r
  case neg =>
    have hi : ¬ isM (x0 :: r) := fun h => hw2 (hM.1 h).2.2
    simp (disch := omega) only [wk1, wk2, wk3, wk4, wk5, wk6, avalE, aactE, evPE, boundE, asNat, Nat.zero_mul, Int.tdiv_eq_ediv_of_nonneg, Int.tmod_eq_emod_of_nonneg, List.length_append, Nat.mul_one, bv_seql cellsEq_ii, bv_sneqd cellsEq_ii, Bool.not_false, Bool.not_true, decide_eq_true_eq, Bool.not_eq_true, eq_self, ne_eq, and_true, true_and, and_self, not_true_eq_false, not_false_eq_true, if_true, if_false, decide_true, decide_false, Int.toNat_natCast, Int.natCast_nonneg, List.drop_zero, List.take_zero, List.take_succ_cons, List.drop_succ_cons, readC, allOne, Bool.and_self, Bool.and_true, Bool.true_and, fillL, beq_self_eq_true, Nat.one_mul, List.drop_nil, resE, tupled, List.map_nil, List.map_cons, Option.map_some, ↓reduceIte, Nat.reduceEqDiff, Int.reduceEq, Int.reduceLT, Int.reduceLE, Nat.reduceAdd, Nat.reduceMul, Nat.reduceLT, Nat.reduceLeDiff, reduceCtorEq, List.length_nil, List.length_cons, Nat.add_zero, Nat.sub_zero, List.nil_append, List.cons_append, List.getElem?_cons_zero, List.getElem?_cons_succ, List.set_cons_zero, List.set_cons_succ, u64A, Int.toNat_zero, i1, i15, i16, hl15, h16', hr16, f0, f1, hm', b1, pB, lC, mle, hsl, unb, eT, wp, wR, hk, resW, Nat.le_add_left, Nat.le_add_right, true_or, Nat.zero_le, sv, eq, hw2]
    rw [ret_scp_goto rfl]
    refine ret_again (by decide) (.inl rfl) ?_
    simp (disch := omega) only [wk1, wk2, wk3, wk4, wk5, wk6, avalE, aactE, evPE, boundE, asNat, Nat.zero_mul, Int.tdiv_eq_ediv_of_nonneg, Int.tmod_eq_emod_of_nonneg, List.length_append, Nat.mul_one, bv_seql cellsEq_ii, bv_sneqd cellsEq_ii, Bool.not_false, Bool.not_true, decide_eq_true_eq, Bool.not_eq_true, eq_self, ne_eq, and_true, true_and, and_self, not_true_eq_false, not_false_eq_true, if_true, if_false, decide_true, decide_false, Int.toNat_natCast, Int.natCast_nonneg, List.drop_zero, List.take_zero, List.take_succ_cons, List.drop_succ_cons, readC, allOne, Bool.and_self, Bool.and_true, Bool.true_and, fillL, beq_self_eq_true, Nat.one_mul, List.drop_nil, resE, tupled, List.map_nil, List.map_cons, Option.map_some, ↓reduceIte, Nat.reduceEqDiff, Int.reduceEq, Int.reduceLT, Int.reduceLE, Nat.reduceAdd, Nat.reduceMul, Nat.reduceLT, Nat.reduceLeDiff, reduceCtorEq, List.length_nil, List.length_cons, Nat.add_zero, Nat.sub_zero, List.nil_append, List.cons_append, List.getElem?_cons_zero, List.getElem?_cons_succ, List.set_cons_zero, List.set_cons_succ, rn, hi, resO, recV, purify, unownT, unown, AV.hf, hfL]
    rfl
  have hi : isM (x0 :: r) := hM.2 ⟨hm, hk, hw2⟩
  have dq : decide (wordsM (x0 % 65536) (textB (x0 :: r)) = x0 :: r) = true := decide_eq_true hw2
  have e2 : textB (x0 :: r) = textM (x0 :: r) := textB_eq hx.1 hi.2.1
  simp (disch := omega) only [wk1, wk2, wk3, wk4, wk5, wk6, avalE, aactE, evPE, boundE, asNat, Nat.zero_mul, Int.tdiv_eq_ediv_of_nonneg, Int.tmod_eq_emod_of_nonneg, List.length_append, Nat.mul_one, bv_seql cellsEq_ii, bv_sneqd cellsEq_ii, Bool.not_false, Bool.not_true, decide_eq_true_eq, Bool.not_eq_true, eq_self, ne_eq, and_true, true_and, and_self, not_true_eq_false, not_false_eq_true, if_true, if_false, decide_true, decide_false, Int.toNat_natCast, Int.natCast_nonneg, List.drop_zero, List.take_zero, List.take_succ_cons, List.drop_succ_cons, readC, allOne, Bool.and_self, Bool.and_true, Bool.true_and, fillL, beq_self_eq_true, Nat.one_mul, List.drop_nil, resE, tupled, List.map_nil, List.map_cons, Option.map_some, ↓reduceIte, Nat.reduceEqDiff, Int.reduceEq, Int.reduceLT, Int.reduceLE, Nat.reduceAdd, Nat.reduceMul, Nat.reduceLT, Nat.reduceLeDiff, reduceCtorEq, List.length_nil, List.length_cons, Nat.add_zero, Nat.sub_zero, List.nil_append, List.cons_append, List.getElem?_cons_zero, List.getElem?_cons_succ, List.set_cons_zero, List.set_cons_succ, u64A, Int.toNat_zero, i1, i15, i16, hl15, h16', hr16, f0, f1, hm', b1, pB, lC, mle, hsl, unb, eT, wp, wR, hk, resW, Nat.le_add_left, Nat.le_add_right, true_or, Nat.zero_le, sv, eq, dq, rn, hi, resO, recV, purify, unownT, unown, AV.hf, hfL]
  rw [← e2]
  rfl
end Go.Proofs.Ytncmflmjlocgiaa
