/- THE WALKS OF THE REFERENCE'S Check, pointer, Swap. No condition but those stated. -/
import Derived.Test.YtailfegmnkldoaaR2
set_option linter.unusedSimpArgs false
set_option linter.unusedVariables false
set_option linter.unusedSectionVars false
namespace Go.Proofs.Ytailfegmnkldoaa
open Go Go.Am Go.Slots
set_option maxHeartbeats 2000000
set_option maxRecDepth 10000
theorem slvR_len {α : Type} {sz : Nat} {f : α → List AV} (l : List α) (E : Env) (H : Heap) (x : X) (h : x.evE E = slvR sz f l) : avalE (.len 0 x) E H = some (.int .i64 l.length) := by
  obtain ⟨s, tk, e, _⟩ := slvR_form sz f l
  simp only [avalE, h, e]
theorem check_no (left : Int) (n : Nat) (cs : List AV) (tk : Tk) (H : Heap) (hn : (n : Int) ≤ 9223372036854775807) (hc : hfL cs = true) (hr : ¬ right left n) :
    pcx (cbL tab) 66 [.int .u64 left, .sl 1 n cs tk] H = some (.plain (.int .i64 2)) := by
  obtain ⟨u1, e1, f1⟩ := lend_sl 1 n cs tk
  refine pcx_N rfl (pc_wp (fi := c66) rfl ?_ (by simp [c66]) (by decide) ?_)
  · simp only [pcOn, List.map_cons, List.map_nil, hfL, hf_lend_sl, hf_lend_int, hf_lend_bool, hf_lend_str, hfL_append, Bool.and_self, Bool.and_true, Bool.true_and, c66, hc]
  unfold c66
  rw [List.map_cons, List.map_cons, List.map_nil, e1, lend_int]
  have r1 := fun H => pcx_N (H := H) rfl (right_pc left n cs u1 hn hc)
  simp (disch := omega) only [wk, avalE, aactE, evPE, boundE, asNat, bv_seql cellsEq_ii, bv_sneqd cellsEq_ii, readC, allOne, fillL, resE, tupled, ↓reduceIte, Nat.reduceEqDiff, Int.reduceEq, Int.reduceLT, Int.reduceLE, Nat.reduceAdd, Nat.reduceMul, Nat.reduceLT, Nat.reduceLeDiff, reduceCtorEq, r1, hr, purify, unownT, lend, unown, AV.hf]
theorem check_yes (left : Int) (ps : List (Int × Int)) (rest : List AV) (tk : Tk) (H : Heap) (hc : hfL rest = true) (hr : right left (2 * ps.length)) :
    pcx (cbL tab) 66 [.int .u64 left, row ps rest tk] H = some (.plain (.int .i64 (if okL left ps then 0 else 190))) := by
  obtain ⟨u1, e1, f1⟩ := lend_sl 1 (2 * ps.length) (encs pairA ps ++ rest) tk
  have hcs : hfL (encs pairA ps ++ rest) = true := by rw [hfL_append, hf_pairA, hc]; rfl
  have hn := hr.2.2.2
  have hlen := rdL_le left ps
  have hraw := rawL_le ps
  refine pcx_N rfl (pc_wp (fi := c66) rfl ?_ (by simp [c66]) (by decide) ?_)
  · simp only [pcOn, List.map_cons, List.map_nil, hfL, hf_lend_sl, hf_lend_int, hf_lend_bool, hf_lend_str, hfL_append, Bool.and_self, Bool.and_true, Bool.true_and, c66, row, hcs, hc, hf_pairA]
  unfold c66
  rw [List.map_cons, List.map_cons, List.map_nil, row, e1, lend_int]
  have r1 := fun H => pcx_N (H := H) rfl (right_pc left (2 * ps.length) (encs pairA ps ++ rest) u1 (by omega) hcs)
  have r2 := fun H => refread_px left ps rest u1 H (by omega) hc
  have r3 := fun H => pcx_N (H := H) rfl (raw_pc ps rest u1 (by omega) hc)
  obtain ⟨s, tk', es, hz, htk⟩ := slvR_form 2 pairA (rdL left ps)
  have r4 := fun H => fine_px left (rdL left ps) s tk' H (by omega) hz
  rw [es] at r2
  simp only [row] at r2 r3
  by_cases hf : risingL (rdL left ps) ∧ distL [left] (rdL left ps)
  case neg =>
    have hno : ¬ okL left ps := fun h => hf ⟨h.1, h.2.1⟩
    simp (disch := omega) only [wk, avalE, aactE, evPE, boundE, asNat, bv_seql cellsEq_ii, bv_sneqd cellsEq_ii, readC, allOne, fillL, resE, tupled, ↓reduceIte, Nat.reduceEqDiff, Int.reduceEq, Int.reduceLT, Int.reduceLE, Nat.reduceAdd, Nat.reduceMul, Nat.reduceLT, Nat.reduceLeDiff, reduceCtorEq, r1, hr, r2, r3, r4, hf, hno, purify, unownT, lend, unown, AV.hf]
  by_cases hlr : (rdL left ps).length = rawL ps
  case neg =>
    have hno : ¬ okL left ps := fun h => hlr h.2.2.1
    have hlr' : ¬ ((rdL left ps).length : Int) = (rawL ps : Nat) := by omega
    simp (disch := omega) only [wk, avalE, aactE, evPE, boundE, asNat, bv_seql cellsEq_ii, bv_sneqd cellsEq_ii, readC, allOne, fillL, resE, tupled, ↓reduceIte, Nat.reduceEqDiff, Int.reduceEq, Int.reduceLT, Int.reduceLE, Nat.reduceAdd, Nat.reduceMul, Nat.reduceLT, Nat.reduceLeDiff, reduceCtorEq, r1, hr, r2, r3, r4, hf, hlr', hno, purify, unownT, lend, unown, AV.hf]
  simp only [hlr] at r4
  by_cases hlm : (rdL left ps).length < ps.length
  case neg =>
    have hno : ¬ okL left ps := fun h => hlm h.2.2.2.1
    have hlm' : ((2 * ps.length : Nat) : Int) / 2 ≤ (rawL ps : Int) := by omega
    simp (disch := omega) only [wk, avalE, aactE, evPE, boundE, asNat, bv_seql cellsEq_ii, bv_sneqd cellsEq_ii, readC, allOne, fillL, resE, tupled, ↓reduceIte, Nat.reduceEqDiff, Int.reduceEq, Int.reduceLT, Int.reduceLE, Nat.reduceAdd, Nat.reduceMul, Nat.reduceLT, Nat.reduceLeDiff, reduceCtorEq, r1, hr, r2, r3, r4, hf, hlr, hlm', hno, purify, unownT, lend, unown, AV.hf]
  have hlm' : ¬ ((2 * ps.length : Nat) : Int) / 2 ≤ (rawL ps : Int) := by omega
  simp (disch := omega) only [wk, avalE, aactE, evPE, boundE, asNat, bv_seql cellsEq_ii, bv_sneqd cellsEq_ii, readC, allOne, fillL, resE, tupled, ↓reduceIte, Nat.reduceEqDiff, Int.reduceEq, Int.reduceLT, Int.reduceLE, Nat.reduceAdd, Nat.reduceMul, Nat.reduceLT, Nat.reduceLeDiff, reduceCtorEq, r1, hr, r2, r3, r4, hf, hlr, hlm']
  have hup : (rawL ps : Int) = (ps.take (rawL ps)).length := by rw [List.length_take]; omega
  refine loop_ind (fun (x : List (Int × Int) × List (Int × Int)) E df H => ps = x.1 ++ x.2 ∧ (zeroL (ps.drop (rawL ps)) ↔ zeroL x.2) ∧ E 1 = row ps rest u1 ∧ E 7 = .int .i64 (x.1.length : Nat) ∧ df = [] ∧ H = [])
    (fun x => x.2.length) (ps.take (rawL ps), ps.drop (rawL ps)) (by decide) (.inl rfl) ⟨by simp, Iff.rfl, rfl, by simp only [en, ↓reduceIte, Nat.reduceEqDiff, hup], rfl, rfl⟩ ?_
  intro ⟨pre, suf⟩ E df H ih hP
  obtain ⟨a1, a2, E1, E7, hdf, hH⟩ := hP
  dsimp only at a1 a2 E7
  subst hdf hH
  have hl : ps.length = pre.length + suf.length := by rw [a1, List.length_append]
  cases suf with
  | nil =>
    simp only [List.length_nil] at hl
    have hok : okL left ps := ⟨hf.1, hf.2, hlr, hlm, by rw [hlr]; exact a2.2 (fun x hx => by simp at hx)⟩
    simp (disch := omega) only [wk, avalE, aactE, evPE, boundE, asNat, bv_seql cellsEq_ii, bv_sneqd cellsEq_ii, readC, allOne, fillL, resE, tupled, ↓reduceIte, Nat.reduceEqDiff, Int.reduceEq, Int.reduceLT, Int.reduceLE, Nat.reduceAdd, Nat.reduceMul, Nat.reduceLT, Nat.reduceLeDiff, reduceCtorEq, E1, E7, row, hok, purify, unownT, lend, unown, AV.hf]
  | cons x r =>
    simp only [List.length_cons] at hl
    have d1 := row_ptr pre x r rest
    rw [← a1] at d1
    by_cases hx : x.2 = 0
    · simp (disch := omega) only [wk, avalE, aactE, evPE, boundE, asNat, bv_seql cellsEq_ii, bv_sneqd cellsEq_ii, readC, allOne, fillL, resE, tupled, ↓reduceIte, Nat.reduceEqDiff, Int.reduceEq, Int.reduceLT, Int.reduceLE, Nat.reduceAdd, Nat.reduceMul, Nat.reduceLT, Nat.reduceLeDiff, reduceCtorEq, E1, E7, row, d1, hx]
      refine ih (pre ++ [x], r) _ _ _ (by simp) ?_
      exact ⟨by simp [a1], by rw [a2]; simp [zeroL, hx], by simp only [en, ↓reduceIte, Nat.reduceEqDiff, E1, row], by simp only [en, ↓reduceIte, Nat.reduceEqDiff], rfl, rfl⟩
    · have hno : ¬ okL left ps := fun h => by
        have := a2.1 (by rw [← hlr]; exact h.2.2.2.2)
        exact hx (this x (List.mem_cons_self ..))
      simp (disch := omega) only [wk, avalE, aactE, evPE, boundE, asNat, bv_seql cellsEq_ii, bv_sneqd cellsEq_ii, readC, allOne, fillL, resE, tupled, ↓reduceIte, Nat.reduceEqDiff, Int.reduceEq, Int.reduceLT, Int.reduceLE, Nat.reduceAdd, Nat.reduceMul, Nat.reduceLT, Nat.reduceLeDiff, reduceCtorEq, E1, E7, row, d1, hx, hno, purify, unownT, lend, unown, AV.hf]
end Go.Proofs.Ytailfegmnkldoaa
