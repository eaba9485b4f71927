/- THE WALK OF THE REFERENCE'S Of. No condition but those stated. -/
import Derived.Test.YtncmflmjlocgiaaR9
set_option linter.unusedSimpArgs false
set_option linter.unusedVariables false
set_option linter.unusedSectionVars false
namespace Go.Proofs.Ytncmflmjlocgiaa
open Go Go.Am Go.Rec
set_option maxHeartbeats 2000000
set_option maxRecDepth 10000
theorem rof_px (w : List Int) (rest : List AV) (s : Nat) (tk : Tk) (H : Heap) (v : AV) (hv : lendK H 4 v = .sl s w.length (encs u64A w ++ rest) tk) (hn : w.length ≤ 1000) (hz : w ≠ [] → s = 1) (ht : tk.hf = true) (hr : hfL rest = true) (hw : ∀ x ∈ w, 0 ≤ x ∧ x < 18446744073709551616) :
    pcx (cbL tab) 21 [v] H = some (.plain (resO (ofR w))) :=
  pcx_L rfl (by rw [List.map_cons, List.map_nil, hv]) (rof_pc w rest s tk H hn hz ht hr hw) rfl
theorem rfof_px (w : List Int) (rest : List AV) (s : Nat) (tk : Tk) (H : Heap) (hn : w.length ≤ 1000) (hz : w ≠ [] → s = 1) (hr : hfL rest = true) (hw : ∀ x ∈ w, 0 ≤ x ∧ x < 18446744073709551616) :
    pcx (cbL tab) 22 [.sl s w.length (encs u64A w ++ rest) tk] H = some (.plain (resO (ofR w))) := by
  obtain ⟨u1, e1, f1⟩ := lend_sl s w.length (encs u64A w ++ rest) tk
  refine pcx_N rfl (pc_wp (fi := c22) rfl ?_ (by simp [c22]) (by decide) ?_)
  · simp only [pcOn, List.map_cons, List.map_nil, hfL, hf_lend_sl, hf_lend_int, hf_lend_bool, hf_lend_str, hfL_append, Bool.and_self, Bool.and_true, Bool.true_and, c22, hf_u64A, hr]
  unfold c22
  rw [List.map_cons, List.map_nil, e1]
  have rn : ofR w = if isM w then ((headM w, textM w), 0) else ((0, emptyS), 250) := rfl
  by_cases h16 : w.length = 16
  case neg =>
    have hi : ¬ isM w := fun h => h16 h.1
    have h16' : ¬ (w.length : Int) = 16 := by omega
    simp (disch := omega) only [wk1, wk2, wk3, wk4, wk5, wk6, avalE, aactE, evPE, boundE, asNat, Nat.zero_mul, Int.tdiv_eq_ediv_of_nonneg, Int.tmod_eq_emod_of_nonneg, List.length_append, Nat.mul_one, bv_seql cellsEq_ii, bv_sneqd cellsEq_ii, Bool.not_false, Bool.not_true, decide_eq_true_eq, Bool.not_eq_true, eq_self, ne_eq, and_true, true_and, and_self, not_true_eq_false, not_false_eq_true, if_true, if_false, decide_true, decide_false, Int.toNat_natCast, Int.natCast_nonneg, List.drop_zero, List.take_zero, List.take_succ_cons, List.drop_succ_cons, readC, allOne, Bool.and_self, Bool.and_true, Bool.true_and, fillL, beq_self_eq_true, Nat.one_mul, List.drop_nil, resE, tupled, List.map_nil, List.map_cons, Option.map_some, ↓reduceIte, Nat.reduceEqDiff, Int.reduceEq, Int.reduceLT, Int.reduceLE, Nat.reduceAdd, Nat.reduceMul, Nat.reduceLT, Nat.reduceLeDiff, reduceCtorEq, List.length_nil, List.length_cons, Nat.add_zero, Nat.sub_zero, List.nil_append, List.cons_append, List.getElem?_cons_zero, List.getElem?_cons_succ, List.set_cons_zero, List.set_cons_succ, h16', rn, hi, resO, recV, purify, unownT, unown, AV.hf, hfL]
    rfl
  obtain ⟨x0, r, rfl⟩ : ∃ x0 r, w = x0 :: r := by
    cases w with
    | nil => simp at h16
    | cons x r => exact ⟨x, r, rfl⟩
  obtain rfl := hz (by simp)
  have hx := hw x0 (by simp)
  have hr16 : r.length = 15 := by simpa using h16
  have h16' : ((x0 :: r).length : Int) = 16 := by omega
  have i1 : (1 : Int).toNat = 1 := rfl
  have i15 : 16 - 1 = 15 := rfl
  have i16 : 1 ≤ 16 := by decide
  have hl15 : 15 ≤ (encs u64A r).length + rest.length := by rw [lenU]; omega
  have hd0 : headM (x0 :: r) = x0 % 65536 := rfl
  have hs0 : isM (x0 :: r) → x0 / 65536 ≤ 120 := fun h => h.2.1
  by_cases h24 : 16777216 ≤ x0
  · have hi : ¬ isM (x0 :: r) := fun h => by have := hs0 h; omega
    simp (disch := omega) only [wk1, wk2, wk3, wk4, wk5, wk6, avalE, aactE, evPE, boundE, asNat, Nat.zero_mul, Int.tdiv_eq_ediv_of_nonneg, Int.tmod_eq_emod_of_nonneg, List.length_append, Nat.mul_one, bv_seql cellsEq_ii, bv_sneqd cellsEq_ii, Bool.not_false, Bool.not_true, decide_eq_true_eq, Bool.not_eq_true, eq_self, ne_eq, and_true, true_and, and_self, not_true_eq_false, not_false_eq_true, if_true, if_false, decide_true, decide_false, Int.toNat_natCast, Int.natCast_nonneg, List.drop_zero, List.take_zero, List.take_succ_cons, List.drop_succ_cons, readC, allOne, Bool.and_self, Bool.and_true, Bool.true_and, fillL, beq_self_eq_true, Nat.one_mul, List.drop_nil, resE, tupled, List.map_nil, List.map_cons, Option.map_some, ↓reduceIte, Nat.reduceEqDiff, Int.reduceEq, Int.reduceLT, Int.reduceLE, Nat.reduceAdd, Nat.reduceMul, Nat.reduceLT, Nat.reduceLeDiff, reduceCtorEq, List.length_nil, List.length_cons, Nat.add_zero, Nat.sub_zero, List.nil_append, List.cons_append, List.getElem?_cons_zero, List.getElem?_cons_succ, List.set_cons_zero, List.set_cons_succ, u64A, Int.toNat_zero, h16', hr16, h24, rn, hi, resO, recV, purify, unownT, unown, AV.hf, hfL]
    rfl
  by_cases hq : 120 < x0 / 65536
  · have hi : ¬ isM (x0 :: r) := fun h => by have := hs0 h; omega
    simp (disch := omega) only [wk1, wk2, wk3, wk4, wk5, wk6, avalE, aactE, evPE, boundE, asNat, Nat.zero_mul, Int.tdiv_eq_ediv_of_nonneg, Int.tmod_eq_emod_of_nonneg, List.length_append, Nat.mul_one, bv_seql cellsEq_ii, bv_sneqd cellsEq_ii, Bool.not_false, Bool.not_true, decide_eq_true_eq, Bool.not_eq_true, eq_self, ne_eq, and_true, true_and, and_self, not_true_eq_false, not_false_eq_true, if_true, if_false, decide_true, decide_false, Int.toNat_natCast, Int.natCast_nonneg, List.drop_zero, List.take_zero, List.take_succ_cons, List.drop_succ_cons, readC, allOne, Bool.and_self, Bool.and_true, Bool.true_and, fillL, beq_self_eq_true, Nat.one_mul, List.drop_nil, resE, tupled, List.map_nil, List.map_cons, Option.map_some, ↓reduceIte, Nat.reduceEqDiff, Int.reduceEq, Int.reduceLT, Int.reduceLE, Nat.reduceAdd, Nat.reduceMul, Nat.reduceLT, Nat.reduceLeDiff, reduceCtorEq, List.length_nil, List.length_cons, Nat.add_zero, Nat.sub_zero, List.nil_append, List.cons_append, List.getElem?_cons_zero, List.getElem?_cons_succ, List.set_cons_zero, List.set_cons_succ, u64A, Int.toNat_zero, h16', hr16, h24, hq, rn, hi, resO, recV, purify, unownT, unown, AV.hf, hfL]
    rfl
  have n24 : ¬ 16777216 ≤ x0 := h24
  have nq : ¬ 120 < x0 / 65536 := hq
  have b1 := fun H => rbytes_px r rest 1 .ro H (by omega) rfl hr (fun x hx => hw x (by simp [hx]))
  rw [hr16] at b1
  have lB : (bytM r).length = 120 := by rw [bytM_len, hr16]
  have lC : (encs byA (bytM r)).length = 120 := by rw [encs_length (k := 1), lB]
  have nB : bytM r ≠ [] := by intro e; rw [e] at lB; cases lB
  have pB : prRow 1 byA (bytM r) = .fresh 1 120 (encs byA (bytM r)) := by rw [prRow_ne nB, lB]
  have eT : ByteArray.mk (List.toArray ((bytM r).take (x0 / 65536).toNat)) = textM (x0 :: r) := rfl
  have mle : (x0 / 65536).toNat ≤ 120 := by omega
  have q0 : 0 ≤ x0 / 65536 := by omega
  have hsl : ∀ g, (if (x0 / 65536).toNat = 120 then AV.sl 1 120 (encs byA (bytM r)) (.own g) else .sl 1 (x0 / 65536).toNat (encs byA (bytM r)) .ro) = .sl 1 (x0 / 65536).toNat (encs byA (bytM r)) (if (x0 / 65536).toNat = 120 then .own g else .ro) := by
    intro g
    split
    · rename_i h; rw [h]
    · rfl
  have ts : (textM (x0 :: r)).size ≤ 120 := by
    rw [textM_size h16 (by show x0 / 65536 ≤ 120; omega) hx.1]
    exact mle
  have wp := fun H => rwords_px (x0 % 65536) (textM (x0 :: r)) H (by omega)
  simp only [recV] at wp
  have wR : wordsR (x0 % 65536) (textM (x0 :: r)) = if recOk (x0 % 65536) (textM (x0 :: r)) then (wordsM (x0 % 65536) (textM (x0 :: r)), 0) else ([], 250) := rfl
  by_cases hk : recOk (x0 % 65536) (textM (x0 :: r))
  case neg =>
    have hi : ¬ isM (x0 :: r) := fun h => hk h.2.2.1
    simp (disch := omega) only [wk1, wk2, wk3, wk4, wk5, wk6, avalE, aactE, evPE, boundE, asNat, Nat.zero_mul, Int.tdiv_eq_ediv_of_nonneg, Int.tmod_eq_emod_of_nonneg, List.length_append, Nat.mul_one, bv_seql cellsEq_ii, bv_sneqd cellsEq_ii, Bool.not_false, Bool.not_true, decide_eq_true_eq, Bool.not_eq_true, eq_self, ne_eq, and_true, true_and, and_self, not_true_eq_false, not_false_eq_true, if_true, if_false, decide_true, decide_false, Int.toNat_natCast, Int.natCast_nonneg, List.drop_zero, List.take_zero, List.take_succ_cons, List.drop_succ_cons, readC, allOne, Bool.and_self, Bool.and_true, Bool.true_and, fillL, beq_self_eq_true, Nat.one_mul, List.drop_nil, resE, tupled, List.map_nil, List.map_cons, Option.map_some, ↓reduceIte, Nat.reduceEqDiff, Int.reduceEq, Int.reduceLT, Int.reduceLE, Nat.reduceAdd, Nat.reduceMul, Nat.reduceLT, Nat.reduceLeDiff, reduceCtorEq, List.length_nil, List.length_cons, Nat.add_zero, Nat.sub_zero, List.nil_append, List.cons_append, List.getElem?_cons_zero, List.getElem?_cons_succ, List.set_cons_zero, List.set_cons_succ, u64A, Int.toNat_zero, i1, i15, i16, hl15, h16', hr16, n24, nq, b1, pB, lC, mle, hsl, unb, eT, wp, wR, hk, resW, Nat.le_add_left, Nat.le_add_right, true_or, Nat.zero_le, rn, hi, resO, recV, purify, unownT, unown, AV.hf, hfL]
    rfl
  have hs := nameM_size hk.2.2
  have h16b : (wordsM (x0 % 65536) (textM (x0 :: r))).length = 16 := wordsM_len hs
  have wne : wordsM (x0 % 65536) (textM (x0 :: r)) ≠ [] := by intro e; rw [e] at h16b; cases h16b
  have sv : slvR 1 u64A (wordsM (x0 % 65536) (textM (x0 :: r))) = .sl 1 16 (encs u64A (wordsM (x0 % 65536) (textM (x0 :: r)))) .ro := by
    unfold slvR
    have : (wordsM (x0 % 65536) (textM (x0 :: r))).isEmpty = false := by
      cases h : wordsM (x0 % 65536) (textM (x0 :: r)) with
      | nil => exact absurd h wne
      | cons _ _ => rfl
    rw [this, h16b]; rfl
  have eq := fun H => same_px (wordsM (x0 % 65536) (textM (x0 :: r))) (x0 :: r) [] rest 1 1 .ro u1 H (by omega) (by omega) (fun _ => rfl) (fun _ => rfl) rfl hr
  simp only [encs_cons, u64A, List.cons_append, List.nil_append, List.append_nil, List.length_cons, hr16, h16b] at eq
  by_cases hw2 : wordsM (x0 % 65536) (textM (x0 :: r)) = x0 :: r
  case neg =>
    have hi : ¬ isM (x0 :: r) := fun h => hw2 h.2.2.2
    simp (disch := omega) only [wk1, wk2, wk3, wk4, wk5, wk6, avalE, aactE, evPE, boundE, asNat, Nat.zero_mul, Int.tdiv_eq_ediv_of_nonneg, Int.tmod_eq_emod_of_nonneg, List.length_append, Nat.mul_one, bv_seql cellsEq_ii, bv_sneqd cellsEq_ii, Bool.not_false, Bool.not_true, decide_eq_true_eq, Bool.not_eq_true, eq_self, ne_eq, and_true, true_and, and_self, not_true_eq_false, not_false_eq_true, if_true, if_false, decide_true, decide_false, Int.toNat_natCast, Int.natCast_nonneg, List.drop_zero, List.take_zero, List.take_succ_cons, List.drop_succ_cons, readC, allOne, Bool.and_self, Bool.and_true, Bool.true_and, fillL, beq_self_eq_true, Nat.one_mul, List.drop_nil, resE, tupled, List.map_nil, List.map_cons, Option.map_some, ↓reduceIte, Nat.reduceEqDiff, Int.reduceEq, Int.reduceLT, Int.reduceLE, Nat.reduceAdd, Nat.reduceMul, Nat.reduceLT, Nat.reduceLeDiff, reduceCtorEq, List.length_nil, List.length_cons, Nat.add_zero, Nat.sub_zero, List.nil_append, List.cons_append, List.getElem?_cons_zero, List.getElem?_cons_succ, List.set_cons_zero, List.set_cons_succ, u64A, Int.toNat_zero, i1, i15, i16, hl15, h16', hr16, n24, nq, b1, pB, lC, mle, hsl, unb, eT, wp, wR, hk, resW, Nat.le_add_left, Nat.le_add_right, true_or, Nat.zero_le, sv, eq, hw2, rn, hi, resO, recV, purify, unownT, unown, AV.hf, hfL]
    rfl
  have hi : isM (x0 :: r) := ⟨h16, by show x0 / 65536 ≤ 120; omega, hk, hw2⟩
  have dq : decide (wordsM (x0 % 65536) (textM (x0 :: r)) = x0 :: r) = true := decide_eq_true hw2
  simp (disch := omega) only [wk1, wk2, wk3, wk4, wk5, wk6, avalE, aactE, evPE, boundE, asNat, Nat.zero_mul, Int.tdiv_eq_ediv_of_nonneg, Int.tmod_eq_emod_of_nonneg, List.length_append, Nat.mul_one, bv_seql cellsEq_ii, bv_sneqd cellsEq_ii, Bool.not_false, Bool.not_true, decide_eq_true_eq, Bool.not_eq_true, eq_self, ne_eq, and_true, true_and, and_self, not_true_eq_false, not_false_eq_true, if_true, if_false, decide_true, decide_false, Int.toNat_natCast, Int.natCast_nonneg, List.drop_zero, List.take_zero, List.take_succ_cons, List.drop_succ_cons, readC, allOne, Bool.and_self, Bool.and_true, Bool.true_and, fillL, beq_self_eq_true, Nat.one_mul, List.drop_nil, resE, tupled, List.map_nil, List.map_cons, Option.map_some, ↓reduceIte, Nat.reduceEqDiff, Int.reduceEq, Int.reduceLT, Int.reduceLE, Nat.reduceAdd, Nat.reduceMul, Nat.reduceLT, Nat.reduceLeDiff, reduceCtorEq, List.length_nil, List.length_cons, Nat.add_zero, Nat.sub_zero, List.nil_append, List.cons_append, List.getElem?_cons_zero, List.getElem?_cons_succ, List.set_cons_zero, List.set_cons_succ, u64A, Int.toNat_zero, i1, i15, i16, hl15, h16', hr16, n24, nq, b1, pB, lC, mle, hsl, unb, eT, wp, wR, hk, resW, Nat.le_add_left, Nat.le_add_right, true_or, Nat.zero_le, sv, eq, dq, rn, hi, resO, recV, purify, unownT, unown, AV.hf, hfL]
  rfl
end Go.Proofs.Ytncmflmjlocgiaa
