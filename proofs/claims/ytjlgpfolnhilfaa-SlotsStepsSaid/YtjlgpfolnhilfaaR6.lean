/- THE WALK OF THE REFERENCE'S Put. No condition but those stated. -/
import Derived.Test.YtjlgpfolnhilfaaR4
set_option linter.unusedSimpArgs false
set_option linter.unusedVariables false
set_option linter.unusedSectionVars false
namespace Go.Proofs.Ytjlgpfolnhilfaa
open Go Go.Am Go.Slots
set_option maxHeartbeats 4000000
set_option maxRecDepth 10000
theorem refput_no (left : Int) (n : Nat) (cs : List AV) (tk : Tk) (p : Int × Int) (H : Heap) (hn : (n : Int) ≤ 9223372036854775807) (hc : hfL cs = true) (hr : ¬ (right left n ∧ p.2 ≠ 0 ∧ p.2 ≠ left)) :
    pcx (cbL tab) 22 [.int .u64 left, .sl 1 n cs tk, .agg (pairA p)] H = some (.plain (resT ([], 2))) := by
  obtain ⟨u1, e1, f1⟩ := lend_sl 1 n cs tk
  have ep : lend (.agg (pairA p)) = .agg (pairA p) := rfl
  refine pcx_N rfl (pc_wp (fi := c22) rfl ?_ (by simp [c22]) (by decide) ?_)
  · simp only [pcOn, List.map_cons, List.map_nil, hfL, hf_lend_sl, hf_lend_int, hf_lend_bool, hf_lend_str, hfL_append, Bool.and_self, Bool.and_true, Bool.true_and, c22, hc, ep]; rfl
  unfold c22
  rw [List.map_cons, List.map_cons, List.map_cons, List.map_nil, e1, lend_int, ep]
  have r1 := fun H => pointer_no left n cs u1 p H hn hc hr
  simp only [pairA] at r1
  clear hr
  simp (disch := omega) only [wk1, wk2, wk3, wk4, wk5, wk6, avalE, aactE, evPE, boundE, asNat, Nat.zero_mul, Int.tdiv_eq_ediv_of_nonneg, Int.tmod_eq_emod_of_nonneg, List.length_append, Nat.mul_one, bv_seql cellsEq_ii, bv_sneqd cellsEq_ii, Bool.not_false, Bool.not_true, decide_eq_true_eq, Bool.not_eq_true, eq_self, ne_eq, and_true, true_and, and_self, not_true_eq_false, not_false_eq_true, if_true, if_false, decide_true, decide_false, Int.toNat_natCast, Int.natCast_nonneg, List.drop_zero, List.take_zero, List.take_succ_cons, List.drop_succ_cons, readC, allOne, Bool.and_self, Bool.and_true, Bool.true_and, fillL, beq_self_eq_true, Nat.one_mul, List.drop_nil, resE, tupled, List.map_nil, List.map_cons, Option.map_some, ↓reduceIte, Nat.reduceEqDiff, Int.reduceEq, Int.reduceLT, Int.reduceLE, Nat.reduceAdd, Nat.reduceMul, Nat.reduceLT, Nat.reduceLeDiff, reduceCtorEq, List.length_nil, List.length_cons, Nat.add_zero, Nat.sub_zero, List.nil_append, List.cons_append, List.getElem?_cons_zero, List.getElem?_cons_succ, List.set_cons_zero, List.set_cons_succ, pairA, r1, purify, unownT, unown, AV.hf, hfL, Tk.hf, resT_nil]
theorem refput_yes (left : Int) (ps : List (Int × Int)) (rest : List AV) (tk : Tk) (p : Int × Int) (H : Heap) (hc : hfL rest = true) (hr : right left (2 * ps.length)) (hp : p.2 ≠ 0) (hp2 : p.2 ≠ left) :
    pcx (cbL tab) 22 [.int .u64 left, row ps rest tk, .agg (pairA p)] H = some (.plain (resT (putM left ps p))) := by
  obtain ⟨u1, e1, f1⟩ := lend_sl 1 (2 * ps.length) (encs pairA ps ++ rest) tk
  have ep : lend (.agg (pairA p)) = .agg (pairA p) := rfl
  have hn := hr.2.2.2
  have hlen := rdL_le left ps
  refine pcx_N rfl (pc_wp (fi := c22) rfl ?_ (by simp [c22]) (by decide) ?_)
  · simp only [pcOn, List.map_cons, List.map_nil, hfL, hf_lend_sl, hf_lend_int, hf_lend_bool, hf_lend_str, hfL_append, Bool.and_self, Bool.and_true, Bool.true_and, c22, row, hc, hf_pairA, ep]; rfl
  unfold c22
  rw [List.map_cons, List.map_cons, List.map_cons, List.map_nil, row, e1, lend_int, ep]
  have r1 := fun H => pointer_yes left ps rest u1 p H hc hr hp hp2
  have r2 := fun H => refread_px left ps rest u1 H (by omega) hc
  obtain ⟨s, tk', es, hz, htk⟩ := slvR_form 2 pairA (rdL left ps)
  have r4 := fun H => pcx_N (H := H) rfl (find_pc (rdL left ps) p.1 s tk' (by omega) hz)
  rw [es] at r2
  rw [← pointerE] at r1
  simp only [pairA, row] at r1 r2 r4
  by_cases h1 : pointerE left ps p = 0
  case neg =>
    have hm : putM left ps p = ([], pointerE left ps p) := by rw [putM, if_pos h1]
    simp (disch := omega) only [wk1, wk2, wk3, wk4, wk5, wk6, avalE, aactE, evPE, boundE, asNat, Nat.zero_mul, Int.tdiv_eq_ediv_of_nonneg, Int.tmod_eq_emod_of_nonneg, List.length_append, Nat.mul_one, bv_seql cellsEq_ii, bv_sneqd cellsEq_ii, Bool.not_false, Bool.not_true, decide_eq_true_eq, Bool.not_eq_true, eq_self, ne_eq, and_true, true_and, and_self, not_true_eq_false, not_false_eq_true, if_true, if_false, decide_true, decide_false, Int.toNat_natCast, Int.natCast_nonneg, List.drop_zero, List.take_zero, List.take_succ_cons, List.drop_succ_cons, readC, allOne, Bool.and_self, Bool.and_true, Bool.true_and, fillL, beq_self_eq_true, Nat.one_mul, List.drop_nil, resE, tupled, List.map_nil, List.map_cons, Option.map_some, ↓reduceIte, Nat.reduceEqDiff, Int.reduceEq, Int.reduceLT, Int.reduceLE, Nat.reduceAdd, Nat.reduceMul, Nat.reduceLT, Nat.reduceLeDiff, reduceCtorEq, List.length_nil, List.length_cons, Nat.add_zero, Nat.sub_zero, List.nil_append, List.cons_append, List.getElem?_cons_zero, List.getElem?_cons_succ, List.set_cons_zero, List.set_cons_succ, pairA, r1, h1, purify, unownT, unown, AV.hf, hfL, Tk.hf, resT_nil, hm]
  have hfl := findL_le p.1 (rdL left ps)
  by_cases h2 : keyAtI (rdL left ps) (findL' p.1 (rdL left ps)) p.1
  case pos =>
    have hm : putM left ps p = ([], 191) := by rw [putM, if_neg (by simp [h1]), if_pos h2]
    simp (disch := omega) only [wk1, wk2, wk3, wk4, wk5, wk6, avalE, aactE, evPE, boundE, asNat, Nat.zero_mul, Int.tdiv_eq_ediv_of_nonneg, Int.tmod_eq_emod_of_nonneg, List.length_append, Nat.mul_one, bv_seql cellsEq_ii, bv_sneqd cellsEq_ii, Bool.not_false, Bool.not_true, decide_eq_true_eq, Bool.not_eq_true, eq_self, ne_eq, and_true, true_and, and_self, not_true_eq_false, not_false_eq_true, if_true, if_false, decide_true, decide_false, Int.toNat_natCast, Int.natCast_nonneg, List.drop_zero, List.take_zero, List.take_succ_cons, List.drop_succ_cons, readC, allOne, Bool.and_self, Bool.and_true, Bool.true_and, fillL, beq_self_eq_true, Nat.one_mul, List.drop_nil, resE, tupled, List.map_nil, List.map_cons, Option.map_some, ↓reduceIte, Nat.reduceEqDiff, Int.reduceEq, Int.reduceLT, Int.reduceLE, Nat.reduceAdd, Nat.reduceMul, Nat.reduceLT, Nat.reduceLeDiff, reduceCtorEq, List.length_nil, List.length_cons, Nat.add_zero, Nat.sub_zero, List.nil_append, List.cons_append, List.getElem?_cons_zero, List.getElem?_cons_succ, List.set_cons_zero, List.set_cons_succ, pairA, r1, r2, r4, h1, h2, purify, unownT, unown, AV.hf, hfL, Tk.hf, resT_nil, hm]
  by_cases h3 : (rdL left ps).length + 1 < ps.length
  case neg =>
    have hm : putM left ps p = ([], 3) := by rw [putM, if_neg (by simp [h1]), if_neg h2, if_neg h3]
    simp (disch := omega) only [wk1, wk2, wk3, wk4, wk5, wk6, avalE, aactE, evPE, boundE, asNat, Nat.zero_mul, Int.tdiv_eq_ediv_of_nonneg, Int.tmod_eq_emod_of_nonneg, List.length_append, Nat.mul_one, bv_seql cellsEq_ii, bv_sneqd cellsEq_ii, Bool.not_false, Bool.not_true, decide_eq_true_eq, Bool.not_eq_true, eq_self, ne_eq, and_true, true_and, and_self, not_true_eq_false, not_false_eq_true, if_true, if_false, decide_true, decide_false, Int.toNat_natCast, Int.natCast_nonneg, List.drop_zero, List.take_zero, List.take_succ_cons, List.drop_succ_cons, readC, allOne, Bool.and_self, Bool.and_true, Bool.true_and, fillL, beq_self_eq_true, Nat.one_mul, List.drop_nil, resE, tupled, List.map_nil, List.map_cons, Option.map_some, ↓reduceIte, Nat.reduceEqDiff, Int.reduceEq, Int.reduceLT, Int.reduceLE, Nat.reduceAdd, Nat.reduceMul, Nat.reduceLT, Nat.reduceLeDiff, reduceCtorEq, List.length_nil, List.length_cons, Nat.add_zero, Nat.sub_zero, List.nil_append, List.cons_append, List.getElem?_cons_zero, List.getElem?_cons_succ, List.set_cons_zero, List.set_cons_succ, pairA, r1, r2, r4, h1, h2, purify, unownT, unown, AV.hf, hfL, Tk.hf, resT_nil, hm]
  rw [putM, if_neg (by simp [h1]), if_neg h2, if_pos h3]
  have ha := fun H => pcx_N (H := H) rfl (ahead_pc left (ps.take (findL' p.1 (rdL left ps))) (ps.drop (findL' p.1 (rdL left ps))) rest u1 (by rw [List.take_append_drop]; omega) hc)
  have hl : (ps.take (findL' p.1 (rdL left ps))).length = findL' p.1 (rdL left ps) := by rw [List.length_take]; omega
  rw [List.take_append_drop, hl] at ha
  simp only [row] at ha
  have hdl := dnF_len (findL' p.1 (rdL left ps)) ((rdL left ps).drop (findL' p.1 (rdL left ps)))
  rw [List.length_drop] at hdl
  simp (disch := omega) only [wk1, wk2, wk3, wk4, wk5, wk6, avalE, aactE, evPE, boundE, asNat, Nat.zero_mul, Int.tdiv_eq_ediv_of_nonneg, Int.tmod_eq_emod_of_nonneg, List.length_append, Nat.mul_one, bv_seql cellsEq_ii, bv_sneqd cellsEq_ii, Bool.not_false, Bool.not_true, decide_eq_true_eq, Bool.not_eq_true, eq_self, ne_eq, and_true, true_and, and_self, not_true_eq_false, not_false_eq_true, if_true, if_false, decide_true, decide_false, Int.toNat_natCast, Int.natCast_nonneg, List.drop_zero, List.take_zero, List.take_succ_cons, List.drop_succ_cons, readC, allOne, Bool.and_self, Bool.and_true, Bool.true_and, fillL, beq_self_eq_true, Nat.one_mul, List.drop_nil, resE, tupled, List.map_nil, List.map_cons, Option.map_some, ↓reduceIte, Nat.reduceEqDiff, Int.reduceEq, Int.reduceLT, Int.reduceLE, Nat.reduceAdd, Nat.reduceMul, Nat.reduceLT, Nat.reduceLeDiff, reduceCtorEq, List.length_nil, List.length_cons, Nat.add_zero, Nat.sub_zero, List.nil_append, List.cons_append, List.getElem?_cons_zero, List.getElem?_cons_succ, List.set_cons_zero, List.set_cons_succ, pairA, r1, r2, r4, h1, h2]
  generalize hi : findL' p.1 (rdL left ps) = i at *
  have c0 : Own ([] : Heap) 2 (.sl 0 0 [] .z) ([] : List (Int × Int)).length (encs putA []) := .inl ⟨.inl rfl, rfl, rfl⟩
  refine runX_app (H := [.cells [.int .u64 p.1, .int .u64 p.2]]) (n0 := 0) (cs := []) (.inl ⟨.inl rfl, rfl, rfl⟩) (by omega) (by omega) (by omega) (by omega) rfl rfl (fun H' q1 q2 q3 => ?_)
  have g0 := q2 0 _ rfl (by simp [tokOf])
  simp (disch := omega) only [wk1, wk2, wk3, wk4, wk5, wk6, avalE, aactE, evPE, boundE, asNat, Nat.zero_mul, Int.tdiv_eq_ediv_of_nonneg, Int.tmod_eq_emod_of_nonneg, List.length_append, Nat.mul_one, bv_seql cellsEq_ii, bv_sneqd cellsEq_ii, Bool.not_false, Bool.not_true, decide_eq_true_eq, Bool.not_eq_true, eq_self, ne_eq, and_true, true_and, and_self, not_true_eq_false, not_false_eq_true, if_true, if_false, decide_true, decide_false, Int.toNat_natCast, Int.natCast_nonneg, List.drop_zero, List.take_zero, List.take_succ_cons, List.drop_succ_cons, readC, allOne, Bool.and_self, Bool.and_true, Bool.true_and, fillL, beq_self_eq_true, Nat.one_mul, List.drop_nil, resE, tupled, List.map_nil, List.map_cons, Option.map_some, ↓reduceIte, Nat.reduceEqDiff, Int.reduceEq, Int.reduceLT, Int.reduceLE, Nat.reduceAdd, Nat.reduceMul, Nat.reduceLT, Nat.reduceLeDiff, reduceCtorEq, List.length_nil, List.length_cons, Nat.add_zero, Nat.sub_zero, List.nil_append, List.cons_append, List.getElem?_cons_zero, List.getElem?_cons_succ, List.set_cons_zero, List.set_cons_succ]
  have hsuf : (rdL left ps).drop i = (rdL left ps).drop i := rfl
  refine loop_ind (fun (x : List (Int × Int) × List (Int × Int) × List (Int × Int)) E df H => (rdL left ps).drop i = x.1 ++ x.2.1 ∧ (2 * ((rdL left ps).length : Int) + 3, 0) :: dnF i ((rdL left ps).drop i) = x.2.2 ++ dnF i x.1 ∧
      E 0 = .int .u64 left ∧ E 1 = row ps rest u1 ∧ E 5 = .ptr 0 0 ∧ E 9 = .sl s (rdL left ps).length (encs pairA (rdL left ps)) tk' ∧ E 11 = .int .i64 (i : Nat) ∧ E 15 = .int .i64 (((i + x.1.length : Nat) : Int) - 1) ∧ df = [] ∧ H[0]? = some (.cells [.int .u64 p.1, .int .u64 p.2]) ∧
      Own H 2 (E 14) x.2.2.length (encs putA x.2.2) ∧ (∀ a b c, E 14 ≠ .sl a b c .e))
    (fun x => x.1.length) ((rdL left ps).drop i, [], [(2 * ((rdL left ps).length : Int) + 3, 0)]) (by decide) (.inl rfl) ⟨by simp, rfl, by simp only [upd_app, updD_some, updD_none, ↓reduceIte, Nat.reduceEqDiff, if_true, if_false, List.length_append, List.length_cons, List.length_nil, Nat.zero_add, Nat.add_zero, cast_succ, argE_zero, argE_succ], by simp only [upd_app, updD_some, updD_none, ↓reduceIte, Nat.reduceEqDiff, if_true, if_false, List.length_append, List.length_cons, List.length_nil, Nat.zero_add, Nat.add_zero, cast_succ, argE_zero, argE_succ, row], by simp only [upd_app, updD_some, updD_none, ↓reduceIte, Nat.reduceEqDiff, if_true, if_false, List.length_append, List.length_cons, List.length_nil, Nat.zero_add, Nat.add_zero, cast_succ, argE_zero, argE_succ], by simp only [upd_app, updD_some, updD_none, ↓reduceIte, Nat.reduceEqDiff, if_true, if_false, List.length_append, List.length_cons, List.length_nil, Nat.zero_add, Nat.add_zero, cast_succ, argE_zero, argE_succ], by simp only [upd_app, updD_some, updD_none, ↓reduceIte, Nat.reduceEqDiff, if_true, if_false, List.length_append, List.length_cons, List.length_nil, Nat.zero_add, Nat.add_zero, cast_succ, argE_zero, argE_succ], ?_, rfl, g0, by simp only [upd_app, updD_some, updD_none, ↓reduceIte, Nat.reduceEqDiff, if_true, if_false, List.length_append, List.length_cons, List.length_nil, Nat.zero_add, Nat.add_zero, cast_succ, argE_zero, argE_succ]; exact q1, by simp only [upd_app, updD_some, updD_none, ↓reduceIte, Nat.reduceEqDiff, if_true, if_false, List.length_append, List.length_cons, List.length_nil, Nat.zero_add, Nat.add_zero, cast_succ, argE_zero, argE_succ]; intro a b c e; cases e⟩ ?_
  · simp only [upd_app, updD_some, updD_none, ↓reduceIte, Nat.reduceEqDiff, if_true, if_false, List.length_append, List.length_cons, List.length_nil, Nat.zero_add, Nat.add_zero, cast_succ, argE_zero, argE_succ, List.length_drop]
    congr 1
    omega
  intro ⟨mid, don, out⟩ E df H ih hP
  obtain ⟨a1, a2, E0, E1, E5, E9, E11, E15, hdf, hH, o1, z1⟩ := hP
  dsimp only at a1 a2 E15 o1
  subst hdf
  have hlm : (rdL left ps).length = i + mid.length + don.length := by
    have := congrArg List.length a1
    rw [List.length_drop, List.length_append] at this
    omega
  have hol : out.length + 2 * mid.length = 1 + 2 * ((rdL left ps).length - i) := by
    have := congrArg List.length a2
    simp only [List.length_cons, List.length_append, dnF_len, List.length_drop] at this
    omega
  rcases List.eq_nil_or_concat mid with rfl | ⟨mid', x, rfl⟩
  · simp only [List.length_nil, Nat.add_zero] at E15 hlm hol
    simp only [dnF, List.append_nil] at a2
    simp (disch := omega) only [wk1, wk2, wk3, wk4, wk5, wk6, avalE, aactE, evPE, boundE, asNat, Nat.zero_mul, Int.tdiv_eq_ediv_of_nonneg, Int.tmod_eq_emod_of_nonneg, List.length_append, Nat.mul_one, bv_seql cellsEq_ii, bv_sneqd cellsEq_ii, Bool.not_false, Bool.not_true, decide_eq_true_eq, Bool.not_eq_true, eq_self, ne_eq, and_true, true_and, and_self, not_true_eq_false, not_false_eq_true, if_true, if_false, decide_true, decide_false, Int.toNat_natCast, Int.natCast_nonneg, List.drop_zero, List.take_zero, List.take_succ_cons, List.drop_succ_cons, readC, allOne, Bool.and_self, Bool.and_true, Bool.true_and, fillL, beq_self_eq_true, Nat.one_mul, List.drop_nil, resE, tupled, List.map_nil, List.map_cons, Option.map_some, ↓reduceIte, Nat.reduceEqDiff, Int.reduceEq, Int.reduceLT, Int.reduceLE, Nat.reduceAdd, Nat.reduceMul, Nat.reduceLT, Nat.reduceLeDiff, reduceCtorEq, List.length_nil, List.length_cons, Nat.add_zero, Nat.sub_zero, List.nil_append, List.cons_append, List.getElem?_cons_zero, List.getElem?_cons_succ, List.set_cons_zero, List.set_cons_succ, E0, E1, E5, E9, E11, E15, hH, row, ha]
    refine runX_app o1 (by omega) (by omega) (by omega) (by omega) rfl rfl (fun H2 w1 w2 w3 => ?_)
    simp (disch := omega) only [wk1, wk2, wk3, wk4, wk5, wk6, avalE, aactE, evPE, boundE, asNat, Nat.zero_mul, Int.tdiv_eq_ediv_of_nonneg, Int.tmod_eq_emod_of_nonneg, List.length_append, Nat.mul_one, bv_seql cellsEq_ii, bv_sneqd cellsEq_ii, Bool.not_false, Bool.not_true, decide_eq_true_eq, Bool.not_eq_true, eq_self, ne_eq, and_true, true_and, and_self, not_true_eq_false, not_false_eq_true, if_true, if_false, decide_true, decide_false, Int.toNat_natCast, Int.natCast_nonneg, List.drop_zero, List.take_zero, List.take_succ_cons, List.drop_succ_cons, readC, allOne, Bool.and_self, Bool.and_true, Bool.true_and, fillL, beq_self_eq_true, Nat.one_mul, List.drop_nil, resE, tupled, List.map_nil, List.map_cons, Option.map_some, ↓reduceIte, Nat.reduceEqDiff, Int.reduceEq, Int.reduceLT, Int.reduceLE, Nat.reduceAdd, Nat.reduceMul, Nat.reduceLT, Nat.reduceLeDiff, reduceCtorEq, List.length_nil, List.length_cons, Nat.add_zero, Nat.sub_zero, List.nil_append, List.cons_append, List.getElem?_cons_zero, List.getElem?_cons_succ, List.set_cons_zero, List.set_cons_succ]
    have s1 : encs putA (out ++ [(2 * (i : Int) + 1, lastP left (ps.take i)), (2 * (i : Int), p.1), (2 * (i : Int) + 1, p.2)]) = encs putA out ++ [.int .i64 (2 * (i : Int) + 1), .int .u64 (lastP left (ps.take i)), .int .i64 (2 * (i : Int)), .int .u64 p.1, .int .i64 (2 * (i : Int) + 1), .int .u64 p.2] := by rw [encs_append]; rfl
    rw [← s1] at w1 ⊢
    have l1 : (out ++ [(2 * (i : Int) + 1, lastP left (ps.take i)), (2 * (i : Int), p.1), (2 * (i : Int) + 1, p.2)]).length = out.length + 3 := by simp
    rw [← l1] at w1 ⊢
    have w5 := own_unown w1 (fun a b c e => by cases e)
    have u2 : unown (.int .i64 0) = .int .i64 0 := rfl
    rw [← List.cons_append, a2]
    simp only [purify, unownT, List.map_cons, List.map_nil, w5, u2, AV.hf, hfL, slvR_hf (f := putA) (fun _ => rfl), Bool.and_self, if_true, resT]
  · simp only [List.concat_eq_append, List.length_append, List.length_cons, List.length_nil, Nat.zero_add] at *
    have hJ : ((i + (mid'.length + 1) : Nat) : Int) - 1 = ((i + mid'.length : Nat) : Int) := by omega
    rw [hJ] at E15
    rw [dnF_snoc] at a2
    generalize hJd : i + mid'.length = J at E15 a2 hJ hlm
    have hget : (rdL left ps)[J]? = some x := by
      have : ((rdL left ps).drop i)[mid'.length]? = some x := by rw [a1]; simp
      rw [List.getElem?_drop, hJd] at this
      exact this
    have dd := drop_at (f := pairA) (rdL left ps) J hget
    obtain rfl := hz (by intro e; rw [e] at hget; simp at hget)
    simp only [pairA, List.cons_append, List.nil_append] at dd
    simp (disch := omega) only [wk1, wk2, wk3, wk4, wk5, wk6, avalE, aactE, evPE, boundE, asNat, Nat.zero_mul, Int.tdiv_eq_ediv_of_nonneg, Int.tmod_eq_emod_of_nonneg, List.length_append, Nat.mul_one, bv_seql cellsEq_ii, bv_sneqd cellsEq_ii, Bool.not_false, Bool.not_true, decide_eq_true_eq, Bool.not_eq_true, eq_self, ne_eq, and_true, true_and, and_self, not_true_eq_false, not_false_eq_true, if_true, if_false, decide_true, decide_false, Int.toNat_natCast, Int.natCast_nonneg, List.drop_zero, List.take_zero, List.take_succ_cons, List.drop_succ_cons, readC, allOne, Bool.and_self, Bool.and_true, Bool.true_and, fillL, beq_self_eq_true, Nat.one_mul, List.drop_nil, resE, tupled, List.map_nil, List.map_cons, Option.map_some, ↓reduceIte, Nat.reduceEqDiff, Int.reduceEq, Int.reduceLT, Int.reduceLE, Nat.reduceAdd, Nat.reduceMul, Nat.reduceLT, Nat.reduceLeDiff, reduceCtorEq, List.length_nil, List.length_cons, Nat.add_zero, Nat.sub_zero, List.nil_append, List.cons_append, List.getElem?_cons_zero, List.getElem?_cons_succ, List.set_cons_zero, List.set_cons_succ, E0, E1, E5, E9, E11, E15, dd, List.append_nil]
    refine runX_app o1 (by omega) (by omega) (by omega) (by omega) rfl rfl (fun H2 w1 w2 w3 => ?_)
    have g1 := w2.cells o1 rfl hH (by intro s e; cases e)
    simp (disch := omega) only [wk1, wk2, wk3, wk4, wk5, wk6, avalE, aactE, evPE, boundE, asNat, Nat.zero_mul, Int.tdiv_eq_ediv_of_nonneg, Int.tmod_eq_emod_of_nonneg, List.length_append, Nat.mul_one, bv_seql cellsEq_ii, bv_sneqd cellsEq_ii, Bool.not_false, Bool.not_true, decide_eq_true_eq, Bool.not_eq_true, eq_self, ne_eq, and_true, true_and, and_self, not_true_eq_false, not_false_eq_true, if_true, if_false, decide_true, decide_false, Int.toNat_natCast, Int.natCast_nonneg, List.drop_zero, List.take_zero, List.take_succ_cons, List.drop_succ_cons, readC, allOne, Bool.and_self, Bool.and_true, Bool.true_and, fillL, beq_self_eq_true, Nat.one_mul, List.drop_nil, resE, tupled, List.map_nil, List.map_cons, Option.map_some, ↓reduceIte, Nat.reduceEqDiff, Int.reduceEq, Int.reduceLT, Int.reduceLE, Nat.reduceAdd, Nat.reduceMul, Nat.reduceLT, Nat.reduceLeDiff, reduceCtorEq, List.length_nil, List.length_cons, Nat.add_zero, Nat.sub_zero, List.nil_append, List.cons_append, List.getElem?_cons_zero, List.getElem?_cons_succ, List.set_cons_zero, List.set_cons_succ, E0, E1, E5, E9, E11, E15]
    refine ih (mid', x :: don, out ++ [(2 * (J : Int) + 3, x.2), (2 * (J : Int) + 2, x.1)]) _ _ _ (by simp) ?_
    have s1 : encs putA (out ++ [(2 * (J : Int) + 3, x.2), (2 * (J : Int) + 2, x.1)]) = encs putA out ++ [.int .i64 (2 * (J : Int) + 3), .int .u64 x.2, .int .i64 (2 * (J : Int) + 2), .int .u64 x.1] := by rw [encs_append]; rfl
    refine ⟨by simp [a1], by rw [a2]; simp, by simp only [upd_app, updD_some, updD_none, ↓reduceIte, Nat.reduceEqDiff, if_true, if_false, List.length_append, List.length_cons, List.length_nil, Nat.zero_add, Nat.add_zero, cast_succ, argE_zero, argE_succ, E0], by simp only [upd_app, updD_some, updD_none, ↓reduceIte, Nat.reduceEqDiff, if_true, if_false, List.length_append, List.length_cons, List.length_nil, Nat.zero_add, Nat.add_zero, cast_succ, argE_zero, argE_succ, E1], by simp only [upd_app, updD_some, updD_none, ↓reduceIte, Nat.reduceEqDiff, if_true, if_false, List.length_append, List.length_cons, List.length_nil, Nat.zero_add, Nat.add_zero, cast_succ, argE_zero, argE_succ, E5], by simp only [upd_app, updD_some, updD_none, ↓reduceIte, Nat.reduceEqDiff, if_true, if_false, List.length_append, List.length_cons, List.length_nil, Nat.zero_add, Nat.add_zero, cast_succ, argE_zero, argE_succ, E9], by simp only [upd_app, updD_some, updD_none, ↓reduceIte, Nat.reduceEqDiff, if_true, if_false, List.length_append, List.length_cons, List.length_nil, Nat.zero_add, Nat.add_zero, cast_succ, argE_zero, argE_succ, E11], ?_, rfl, g1, ?_, ?_⟩
    · simp only [hJd]
      simp only [upd_app, updD_some, updD_none, ↓reduceIte, Nat.reduceEqDiff, if_true, if_false, List.length_append, List.length_cons, List.length_nil, Nat.zero_add, Nat.add_zero, cast_succ, argE_zero, argE_succ]
    · simp only [s1]
      simp only [upd_app, updD_some, updD_none, ↓reduceIte, Nat.reduceEqDiff, if_true, if_false, List.length_append, List.length_cons, List.length_nil, Nat.zero_add, Nat.add_zero, cast_succ, argE_zero, argE_succ]
      simpa using w1
    · simp only [upd_app, updD_some, updD_none, ↓reduceIte, Nat.reduceEqDiff, if_true, if_false, List.length_append, List.length_cons, List.length_nil, Nat.zero_add, Nat.add_zero, cast_succ, argE_zero, argE_succ]; intro a b c e; cases e
end Go.Proofs.Ytjlgpfolnhilfaa
