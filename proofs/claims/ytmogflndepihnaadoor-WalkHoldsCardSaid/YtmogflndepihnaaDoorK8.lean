/- THE WALKS OF Short AND Split. No condition but those stated. -/
import Derived.Test.YtmogflndepihnaaDoorK7
set_option linter.unusedSimpArgs false
set_option linter.unusedVariables false
set_option linter.unusedSectionVars false
namespace Go.Proofs.YtmogflndepihnaaDoor
open Go Go.Am Go.Rec Go.Nam
set_option maxHeartbeats 4000000
set_option maxRecDepth 10000
theorem joinS_le (ps : List (List UInt8)) : (joinS ps).length ≤ (joinM ps).length := by
  unfold joinM
  split
  · rename_i h; rw [h]; exact Nat.zero_le _
  · exact Nat.le_refl _
theorem cut_small {l : List UInt8} (h : partsE l = 0) : (joinM (cutP l)).length ≤ 1000 ∧ (joinS (cutP l)).length ≤ 1000 ∧ (cutP l).length ≤ 1000 := by
  obtain ⟨h1, h2, _, _⟩ := partsE_ok.1 h
  have h3 := joinM_len h2
  have h4 := joinS_le (cutP l)
  have h5 : (cutP l).length ≤ (joinS (cutP l)).length := by
    rw [joinS_len, sumP]
    generalize cutP l = ps
    induction ps with
    | nil => simp
    | cons p r ih => simp only [List.map_cons, List.sum_cons, List.length_cons]; omega
  omega
def eS : AV := .str (ByteArray.mk (Array.mk []))
def shortV (l : List UInt8) : AV := if partsE l = 0 then .tup [.str (bs (joinM (cutP l))), .int .i64 0] else .tup [eS, .int .i64 (partsE l)]
theorem short_px (l : List UInt8) (hn : l.length ≤ 5000) (H : Heap) : pcx (cbL tab) 25 [.str (bs l)] H = some (.plain (shortV l)) := by
  refine pcx_N rfl (pc_wp (fi := c25) rfl rfl (by simp [c25]) (by decide) ?_)
  unfold c25
  rw [List.map_cons, List.map_nil, lend_str]
  have pp := fun H => parts_px l hn H
  unfold partsV rowV at pp
  unfold shortV
  by_cases he : partsE l = 0
  · obtain ⟨b1, b2, b3⟩ := cut_small he
    simp only [he, if_true] at pp ⊢
    have j := fun H => joined_px (cutP l) 1 (encs strA (cutP l)) .ro (List.take_of_length_le (by rw [lenS]; exact Nat.le_refl _)) (fun _ => rfl) (by omega) (by omega) H
    simp (disch := omega) only [wk, avalE, aactE, evPE, boundE, asNat, bv_seql cellsEq_ii, bv_sneqd cellsEq_ii, readC, allOne, fillL, resE, tupled, ↓reduceIte, Nat.reduceEqDiff, Int.reduceEq, Int.reduceLT, Int.reduceLE, Nat.reduceAdd, Nat.reduceMul, Nat.reduceLT, Nat.reduceLeDiff, reduceCtorEq, pp, j, purify, unownT, unown, AV.hf, hfL]
  · rw [if_neg he] at pp ⊢
    simp (disch := omega) only [wk, avalE, aactE, evPE, boundE, asNat, bv_seql cellsEq_ii, bv_sneqd cellsEq_ii, readC, allOne, fillL, resE, tupled, ↓reduceIte, Nat.reduceEqDiff, Int.reduceEq, Int.reduceLT, Int.reduceLE, Nat.reduceAdd, Nat.reduceMul, Nat.reduceLT, Nat.reduceLeDiff, reduceCtorEq, pp, he, eS, purify, unownT, unown, AV.hf, hfL]
/-- All but the last part, and that. -/
def splitV (l : List UInt8) : AV :=
  if partsE l = 0 then (match (cutP l).getLast? with
    | none => .tup [eS, eS, .int .i64 140]
    | some x => if dotsM (bs x) then .tup [eS, eS, .int .i64 140] else .tup [.str (bs (joinM (cutP l).dropLast)), .str (bs x), .int .i64 0])
  else .tup [eS, eS, .int .i64 (partsE l)]
theorem last_cases (ps : List (List UInt8)) : ps = [] ∨ ∃ pre x, ps = pre ++ [x] := by
  rcases List.eq_nil_or_concat ps with h | ⟨pre, x, h⟩
  · exact .inl h
  · exact .inr ⟨pre, x, by rw [h, List.concat_eq_append]⟩
theorem split_px (l : List UInt8) (hn : l.length ≤ 5000) (H : Heap) : pcx (cbL tab) 26 [.str (bs l)] H = some (.plain (splitV l)) := by
  refine pcx_N rfl (pc_wp (fi := c26) rfl rfl (by simp [c26]) (by decide) ?_)
  unfold c26
  rw [List.map_cons, List.map_nil, lend_str]
  have pp := fun H => parts_px l hn H
  unfold partsV rowV at pp
  unfold splitV
  by_cases he : partsE l = 0
  case neg =>
    rw [if_neg he] at pp ⊢
    have m0 : -9223372036854775808 ≤ ((0 : Nat) : Int) - 1 := by decide
    simp (disch := omega) only [wk, avalE, aactE, evPE, boundE, asNat, bv_seql cellsEq_ii, bv_sneqd cellsEq_ii, readC, allOne, fillL, resE, tupled, ↓reduceIte, Nat.reduceEqDiff, Int.reduceEq, Int.reduceLT, Int.reduceLE, Nat.reduceAdd, Nat.reduceMul, Nat.reduceLT, Nat.reduceLeDiff, reduceCtorEq, pp, he, eS, purify, unownT, unown, AV.hf, hfL]
  obtain ⟨b1, b2, b3⟩ := cut_small he
  simp only [he, if_true] at pp ⊢
  generalize cutP l = ps at *
  rcases last_cases ps with rfl | ⟨pre, x, rfl⟩
  · have e : ([] : List (List UInt8)).getLast? = none := rfl
    have z : ([] : List (List UInt8)).length = 0 := rfl
    have m0 : ((0 : Nat) : Int) - 1 < 0 := by decide
    rw [e]
    simp (disch := omega) only [wk, avalE, aactE, evPE, boundE, asNat, bv_seql cellsEq_ii, bv_sneqd cellsEq_ii, readC, allOne, fillL, resE, tupled, ↓reduceIte, Nat.reduceEqDiff, Int.reduceEq, Int.reduceLT, Int.reduceLE, Nat.reduceAdd, Nat.reduceMul, Nat.reduceLT, Nat.reduceLeDiff, reduceCtorEq, pp, z, m0, eS, purify, unownT, unown, AV.hf, hfL]
  have e : (pre ++ [x]).getLast? = some x := by simp
  have ed : (pre ++ [x]).dropLast = pre := by simp
  have z : (pre ++ [x]).length = pre.length + 1 := by simp
  rw [z] at pp b3
  rw [e, ed]
  have en1 : ((pre.length : Nat) : Int) + 1 - 1 = ((pre.length : Nat) : Int) := by omega
  have nlt : ¬ ((pre.length : Nat) : Int) < 0 := by omega
  have lt : ((pre.length : Nat) : Int) < ((pre.length : Nat) : Int) + 1 := by omega
  have d1 : List.drop pre.length (encs strA (pre ++ [x])) = [.str (bs x)] := by
    have := drop_pre (f := strA) pre [x]
    rw [Nat.mul_one] at this
    rw [this]; rfl
  have dt := fun H => dots2_px (bs x) H
  have hne : ¬ pre.length = pre.length + 1 := by omega
  have le1 : pre.length ≤ (encs strA (pre ++ [x])).length := by rw [lenS, z]; omega
  have hjs : (joinS pre).length ≤ 1000 := by
    have : joinS (pre ++ [x]) = joinS pre ++ joinS [x] := by rw [joinS, joinS, joinS, List.flatMap_append]
    rw [this, List.length_append] at b2; omega
  have j := fun H => joined_px pre 1 (encs strA (pre ++ [x])) .ro (by rw [encs_append, List.take_append_of_le_length (by rw [lenS]; exact Nat.le_refl _), List.take_of_length_le (by rw [lenS]; exact Nat.le_refl _)]) (fun _ => rfl) (by omega) (by omega) H
  generalize encs strA (pre ++ [x]) = C at *
  simp only
  cases hd : dotsM (bs x) with
  | true =>
    rw [hd] at dt
    simp (disch := omega) only [wk, avalE, aactE, evPE, boundE, asNat, bv_seql cellsEq_ii, bv_sneqd cellsEq_ii, readC, allOne, fillL, resE, tupled, ↓reduceIte, Nat.reduceEqDiff, Int.reduceEq, Int.reduceLT, Int.reduceLE, Nat.reduceAdd, Nat.reduceMul, Nat.reduceLT, Nat.reduceLeDiff, reduceCtorEq, pp, en1, nlt, lt, d1, dt, eS, purify, unownT, unown, AV.hf, hfL]
  | false =>
    rw [hd] at dt
    simp (disch := omega) only [wk, avalE, aactE, evPE, boundE, asNat, bv_seql cellsEq_ii, bv_sneqd cellsEq_ii, readC, allOne, fillL, resE, tupled, ↓reduceIte, Nat.reduceEqDiff, Int.reduceEq, Int.reduceLT, Int.reduceLE, Nat.reduceAdd, Nat.reduceMul, Nat.reduceLT, Nat.reduceLeDiff, reduceCtorEq, pp, en1, nlt, lt, d1, dt, hne, le1, j, Nat.zero_le, purify, unownT, unown, AV.hf, hfL, Bool.false_eq_true]
theorem rsplit_px (l : List UInt8) (hn : l.length ≤ 5000) (H : Heap) : pcx (cbL tab) 27 [.str (bs l)] H = some (.plain (splitV l)) := by
  refine pcx_N rfl (pc_wp (fi := c27) rfl rfl (by simp [c27]) (by decide) ?_)
  unfold c27
  rw [List.map_cons, List.map_nil, lend_str]
  have pp := fun H => rparts_px l hn H
  unfold rpartsV partsM at pp
  unfold splitV
  by_cases he : partsE l = 0
  case neg =>
    rw [if_neg he] at pp ⊢
    have sv : slvR 1 strA ([] : List (List UInt8)) = .sl 0 0 [] .z := rfl
    rw [sv] at pp
    simp (disch := omega) only [wk, avalE, aactE, evPE, boundE, asNat, bv_seql cellsEq_ii, bv_sneqd cellsEq_ii, readC, allOne, fillL, resE, tupled, ↓reduceIte, Nat.reduceEqDiff, Int.reduceEq, Int.reduceLT, Int.reduceLE, Nat.reduceAdd, Nat.reduceMul, Nat.reduceLT, Nat.reduceLeDiff, reduceCtorEq, pp, he, eS, purify, unownT, unown, AV.hf, hfL]
  obtain ⟨b1, b2, b3⟩ := cut_small he
  simp only [he, if_true] at pp ⊢
  generalize cutP l = ps at *
  rcases last_cases ps with rfl | ⟨pre, x, rfl⟩
  · have e : ([] : List (List UInt8)).getLast? = none := rfl
    have sv : slvR 1 strA ([] : List (List UInt8)) = .sl 0 0 [] .z := rfl
    rw [sv] at pp
    have m0 : ((0 : Nat) : Int) - 1 < 0 := by decide
    rw [e]
    simp (disch := omega) only [wk, avalE, aactE, evPE, boundE, asNat, bv_seql cellsEq_ii, bv_sneqd cellsEq_ii, readC, allOne, fillL, resE, tupled, ↓reduceIte, Nat.reduceEqDiff, Int.reduceEq, Int.reduceLT, Int.reduceLE, Nat.reduceAdd, Nat.reduceMul, Nat.reduceLT, Nat.reduceLeDiff, reduceCtorEq, pp, m0, eS, purify, unownT, unown, AV.hf, hfL]
  have e : (pre ++ [x]).getLast? = some x := by simp
  have ed : (pre ++ [x]).dropLast = pre := by simp
  have z : (pre ++ [x]).length = pre.length + 1 := by simp
  have sv : slvR 1 strA (pre ++ [x]) = .sl 1 (pre.length + 1) (encs strA (pre ++ [x])) .ro := by
    unfold slvR
    rw [if_neg (by simp), z]
  rw [sv] at pp
  rw [z] at b3
  rw [e, ed]
  have en1 : ((pre.length : Nat) : Int) + 1 - 1 = ((pre.length : Nat) : Int) := by omega
  have nlt : ¬ ((pre.length : Nat) : Int) < 0 := by omega
  have lt : ((pre.length : Nat) : Int) < ((pre.length : Nat) : Int) + 1 := by omega
  have d1 : List.drop pre.length (encs strA (pre ++ [x])) = [.str (bs x)] := by
    have := drop_pre (f := strA) pre [x]
    rw [Nat.mul_one] at this
    rw [this]; rfl
  have dt := fun H => dots_px (bs x) H
  have hne : ¬ pre.length = pre.length + 1 := by omega
  have le1 : pre.length ≤ (encs strA (pre ++ [x])).length := by rw [lenS, z]; omega
  have hjs : (joinS pre).length ≤ 1000 := by
    have : joinS (pre ++ [x]) = joinS pre ++ joinS [x] := by rw [joinS, joinS, joinS, List.flatMap_append]
    rw [this, List.length_append] at b2; omega
  have j := fun H => rjoined_px pre 1 (encs strA (pre ++ [x])) .ro ⟨encs strA [x], by rw [encs_append], hf_strA _⟩ (fun _ => rfl) (by omega) (by omega) H
  generalize encs strA (pre ++ [x]) = C at *
  simp only
  cases hd : dotsM (bs x) with
  | true =>
    rw [hd] at dt
    simp (disch := omega) only [wk, avalE, aactE, evPE, boundE, asNat, bv_seql cellsEq_ii, bv_sneqd cellsEq_ii, readC, allOne, fillL, resE, tupled, ↓reduceIte, Nat.reduceEqDiff, Int.reduceEq, Int.reduceLT, Int.reduceLE, Nat.reduceAdd, Nat.reduceMul, Nat.reduceLT, Nat.reduceLeDiff, reduceCtorEq, pp, en1, nlt, lt, d1, dt, eS, purify, unownT, unown, AV.hf, hfL]
  | false =>
    rw [hd] at dt
    simp (disch := omega) only [wk, avalE, aactE, evPE, boundE, asNat, bv_seql cellsEq_ii, bv_sneqd cellsEq_ii, readC, allOne, fillL, resE, tupled, ↓reduceIte, Nat.reduceEqDiff, Int.reduceEq, Int.reduceLT, Int.reduceLE, Nat.reduceAdd, Nat.reduceMul, Nat.reduceLT, Nat.reduceLeDiff, reduceCtorEq, pp, en1, nlt, lt, d1, dt, hne, le1, j, Nat.zero_le, purify, unownT, unown, AV.hf, hfL, Bool.false_eq_true]
end Go.Proofs.YtmogflndepihnaaDoor
