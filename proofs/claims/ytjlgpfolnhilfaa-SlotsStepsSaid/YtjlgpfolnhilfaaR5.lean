/- THE WALKS OF THE REFERENCE'S shift AND Take. No condition but those stated. -/
import Derived.Test.YtjlgpfolnhilfaaR4
set_option linter.unusedSimpArgs false
set_option linter.unusedVariables false
set_option linter.unusedSectionVars false
namespace Go.Proofs.Ytjlgpfolnhilfaa
open Go Go.Am Go.Slots
set_option maxHeartbeats 2000000
set_option maxRecDepth 10000
theorem row_skey (pre : List (Int × Int)) (x y : Int × Int) (r : List (Int × Int)) (rest : List AV) : List.drop (2 * (pre.length : Int) + 2).toNat (encs pairA (pre ++ x :: y :: r) ++ rest) = .int .u64 y.1 :: .int .u64 y.2 :: (encs pairA r ++ rest) := by
  have := row_key (pre ++ [x]) y r rest
  have e : (2 * ((pre ++ [x]).length : Int)).toNat = (2 * (pre.length : Int) + 2).toNat := by simp; omega
  rw [e, List.append_assoc] at this
  exact this
theorem row_sptr (pre : List (Int × Int)) (x y : Int × Int) (r : List (Int × Int)) (rest : List AV) : List.drop (2 * (pre.length : Int) + 3).toNat (encs pairA (pre ++ x :: y :: r) ++ rest) = .int .u64 y.2 :: (encs pairA r ++ rest) := by
  have := row_ptr (pre ++ [x]) y r rest
  have e : (2 * ((pre ++ [x]).length : Int) + 1).toNat = (2 * (pre.length : Int) + 3).toNat := by simp; omega
  rw [e, List.append_assoc] at this
  exact this
theorem refshift_px (ps : List (Int × Int)) (rest : List AV) (tk : Tk) (d m : Nat) (H : Heap) (hn : ps.length ≤ 1000) (hc : hfL rest = true) (hd : d < m) (hm : m ≤ ps.length) :
    pcx (cbL tab) 64 [row ps rest tk, .int .i64 (d : Nat), .int .i64 (m : Nat)] H = some (prRow 2 putA (shiftM ps d m)) := by
  obtain ⟨u1, e1, f1⟩ := lend_sl 1 (2 * ps.length) (encs pairA ps ++ rest) tk
  refine pcx_N rfl (pc_wp (fi := c64) rfl ?_ (by simp [c64]) (by decide) ?_)
  · simp only [pcOn, List.map_cons, List.map_nil, hfL, hf_lend_sl, hf_lend_int, hf_lend_bool, hf_lend_str, hfL_append, Bool.and_self, Bool.and_true, Bool.true_and, c64, row, hc, hf_pairA]
  unfold c64
  rw [List.map_cons, List.map_cons, List.map_cons, List.map_nil, row, e1, lend_int, lend_int]
  simp (disch := omega) only [wk1, wk2, wk3, wk4, wk5, wk6, avalE, aactE, evPE, boundE, asNat, Nat.zero_mul, Int.tdiv_eq_ediv_of_nonneg, Int.tmod_eq_emod_of_nonneg, List.length_append, Nat.mul_one, bv_seql cellsEq_ii, bv_sneqd cellsEq_ii, Bool.not_false, Bool.not_true, decide_eq_true_eq, Bool.not_eq_true, eq_self, ne_eq, and_true, true_and, and_self, not_true_eq_false, not_false_eq_true, if_true, if_false, decide_true, decide_false, Int.toNat_natCast, Int.natCast_nonneg, List.drop_zero, List.take_zero, List.take_succ_cons, List.drop_succ_cons, readC, allOne, Bool.and_self, Bool.and_true, Bool.true_and, fillL, beq_self_eq_true, Nat.one_mul, List.drop_nil, resE, tupled, List.map_nil, List.map_cons, Option.map_some, ↓reduceIte, Nat.reduceEqDiff, Int.reduceEq, Int.reduceLT, Int.reduceLE, Nat.reduceAdd, Nat.reduceMul, Nat.reduceLT, Nat.reduceLeDiff, reduceCtorEq, List.length_nil, List.length_cons, Nat.add_zero, Nat.sub_zero, List.nil_append, List.cons_append, List.getElem?_cons_zero, List.getElem?_cons_succ, List.set_cons_zero, List.set_cons_succ]
  refine loop_ind (fun (x : Nat × List (Int × Int)) E df H => d ≤ x.1 ∧ x.1 < m ∧ shF d (m - 1 - d) (ps.drop (d + 1)) = x.2 ++ shF x.1 (m - 1 - x.1) (ps.drop (x.1 + 1)) ∧ x.2.length ≤ 2 * x.1 ∧ E 0 = row ps rest u1 ∧ E 2 = .int .i64 (m : Nat) ∧ E 8 = .int .i64 (x.1 : Nat) ∧ df = [] ∧
      Own H 2 (E 7) x.2.length (encs putA x.2) ∧ (∀ a b c, E 7 ≠ .sl a b c .e)) (fun x => m - x.1) (d, []) (by decide) (.inl rfl) ⟨Nat.le_refl _, hd, rfl, by simp, rfl, rfl, rfl, rfl, .inl ⟨.inl rfl, rfl, rfl⟩, (by intro a b c e; cases e)⟩ ?_
  intro ⟨j, out⟩ E df H ih hP
  obtain ⟨a0, a1, a2, a3, E0, E2, E8, hdf, o1, z1⟩ := hP
  dsimp only at a0 a1 a2 a3 E8 o1
  subst hdf
  by_cases hj : j + 1 < m
  · have h1 : j < ps.length := by omega
    have h2 : j + 1 < ps.length := by omega
    have hps : ps = ps.take j ++ ps[j] :: ps[j + 1] :: ps.drop (j + 2) := by
      rw [← List.drop_eq_getElem_cons h2, ← List.drop_eq_getElem_cons h1, List.take_append_drop]
    have hl : (ps.take j).length = j := by rw [List.length_take]; omega
    have d1 := row_skey (ps.take j) ps[j] ps[j + 1] (ps.drop (j + 2)) rest
    have d2 := row_sptr (ps.take j) ps[j] ps[j + 1] (ps.drop (j + 2)) rest
    rw [← hps, hl] at d1 d2
    have hc2 : m - 1 - j = (m - 1 - (j + 1)) + 1 := by omega
    rw [hc2, List.drop_eq_getElem_cons h2, shF] at a2
    simp (disch := omega) only [wk1, wk2, wk3, wk4, wk5, wk6, avalE, aactE, evPE, boundE, asNat, Nat.zero_mul, Int.tdiv_eq_ediv_of_nonneg, Int.tmod_eq_emod_of_nonneg, List.length_append, Nat.mul_one, bv_seql cellsEq_ii, bv_sneqd cellsEq_ii, Bool.not_false, Bool.not_true, decide_eq_true_eq, Bool.not_eq_true, eq_self, ne_eq, and_true, true_and, and_self, not_true_eq_false, not_false_eq_true, if_true, if_false, decide_true, decide_false, Int.toNat_natCast, Int.natCast_nonneg, List.drop_zero, List.take_zero, List.take_succ_cons, List.drop_succ_cons, readC, allOne, Bool.and_self, Bool.and_true, Bool.true_and, fillL, beq_self_eq_true, Nat.one_mul, List.drop_nil, resE, tupled, List.map_nil, List.map_cons, Option.map_some, ↓reduceIte, Nat.reduceEqDiff, Int.reduceEq, Int.reduceLT, Int.reduceLE, Nat.reduceAdd, Nat.reduceMul, Nat.reduceLT, Nat.reduceLeDiff, reduceCtorEq, List.length_nil, List.length_cons, Nat.add_zero, Nat.sub_zero, List.nil_append, List.cons_append, List.getElem?_cons_zero, List.getElem?_cons_succ, List.set_cons_zero, List.set_cons_succ, E0, E2, E8, row, d1, d2, List.append_nil]
    refine runX_app o1 (by omega) (by omega) (by omega) (by omega) rfl rfl (fun H' q1 q2 q3 => ?_)
    simp (disch := omega) only [wk1, wk2, wk3, wk4, wk5, wk6, avalE, aactE, evPE, boundE, asNat, Nat.zero_mul, Int.tdiv_eq_ediv_of_nonneg, Int.tmod_eq_emod_of_nonneg, List.length_append, Nat.mul_one, bv_seql cellsEq_ii, bv_sneqd cellsEq_ii, Bool.not_false, Bool.not_true, decide_eq_true_eq, Bool.not_eq_true, eq_self, ne_eq, and_true, true_and, and_self, not_true_eq_false, not_false_eq_true, if_true, if_false, decide_true, decide_false, Int.toNat_natCast, Int.natCast_nonneg, List.drop_zero, List.take_zero, List.take_succ_cons, List.drop_succ_cons, readC, allOne, Bool.and_self, Bool.and_true, Bool.true_and, fillL, beq_self_eq_true, Nat.one_mul, List.drop_nil, resE, tupled, List.map_nil, List.map_cons, Option.map_some, ↓reduceIte, Nat.reduceEqDiff, Int.reduceEq, Int.reduceLT, Int.reduceLE, Nat.reduceAdd, Nat.reduceMul, Nat.reduceLT, Nat.reduceLeDiff, reduceCtorEq, List.length_nil, List.length_cons, Nat.add_zero, Nat.sub_zero, List.nil_append, List.cons_append, List.getElem?_cons_zero, List.getElem?_cons_succ, List.set_cons_zero, List.set_cons_succ, E0, E2, E8]
    refine ih (j + 1, out ++ [(2 * (j : Int), ps[j + 1].1), (2 * (j : Int) + 1, ps[j + 1].2)]) _ _ _ (by simp only; omega) ?_
    have s1 : encs putA (out ++ [(2 * (j : Int), ps[j + 1].1), (2 * (j : Int) + 1, ps[j + 1].2)]) = encs putA out ++ [.int .i64 (2 * (j : Int)), .int .u64 ps[j + 1].1, .int .i64 (2 * (j : Int) + 1), .int .u64 ps[j + 1].2] := by rw [encs_append]; rfl
    refine ⟨by simp only; omega, hj, by simp [a2], by simp; omega, by simp only [upd_app, updD_some, updD_none, ↓reduceIte, Nat.reduceEqDiff, if_true, if_false, List.length_append, List.length_cons, List.length_nil, Nat.zero_add, Nat.add_zero, cast_succ, argE_zero, argE_succ, E0, row], by simp only [upd_app, updD_some, updD_none, ↓reduceIte, Nat.reduceEqDiff, if_true, if_false, List.length_append, List.length_cons, List.length_nil, Nat.zero_add, Nat.add_zero, cast_succ, argE_zero, argE_succ, E2], by simp only [upd_app, updD_some, updD_none, ↓reduceIte, Nat.reduceEqDiff, if_true, if_false, List.length_append, List.length_cons, List.length_nil, Nat.zero_add, Nat.add_zero, cast_succ, argE_zero, argE_succ], rfl, ?_, ?_⟩
    · simp only [s1]
      simp only [upd_app, updD_some, updD_none, ↓reduceIte, Nat.reduceEqDiff, if_true, if_false, List.length_append, List.length_cons, List.length_nil, Nat.zero_add, Nat.add_zero, cast_succ, argE_zero, argE_succ]
      simpa using q1
    · simp only [upd_app, updD_some, updD_none, ↓reduceIte, Nat.reduceEqDiff, if_true, if_false, List.length_append, List.length_cons, List.length_nil, Nat.zero_add, Nat.add_zero, cast_succ, argE_zero, argE_succ]; intro a b c e; cases e
  · have hjm : j = m - 1 := by omega
    have hc0 : m - 1 - j = 0 := by omega
    rw [hc0, shF, List.append_nil] at a2
    simp (disch := omega) only [wk1, wk2, wk3, wk4, wk5, wk6, avalE, aactE, evPE, boundE, asNat, Nat.zero_mul, Int.tdiv_eq_ediv_of_nonneg, Int.tmod_eq_emod_of_nonneg, List.length_append, Nat.mul_one, bv_seql cellsEq_ii, bv_sneqd cellsEq_ii, Bool.not_false, Bool.not_true, decide_eq_true_eq, Bool.not_eq_true, eq_self, ne_eq, and_true, true_and, and_self, not_true_eq_false, not_false_eq_true, if_true, if_false, decide_true, decide_false, Int.toNat_natCast, Int.natCast_nonneg, List.drop_zero, List.take_zero, List.take_succ_cons, List.drop_succ_cons, readC, allOne, Bool.and_self, Bool.and_true, Bool.true_and, fillL, beq_self_eq_true, Nat.one_mul, List.drop_nil, resE, tupled, List.map_nil, List.map_cons, Option.map_some, ↓reduceIte, Nat.reduceEqDiff, Int.reduceEq, Int.reduceLT, Int.reduceLE, Nat.reduceAdd, Nat.reduceMul, Nat.reduceLT, Nat.reduceLeDiff, reduceCtorEq, List.length_nil, List.length_cons, Nat.add_zero, Nat.sub_zero, List.nil_append, List.cons_append, List.getElem?_cons_zero, List.getElem?_cons_succ, List.set_cons_zero, List.set_cons_succ, E0, E2, E8]
    refine runX_app o1 (by omega) (by omega) (by omega) (by omega) rfl rfl (fun H' q1 q2 q3 => ?_)
    simp (disch := omega) only [wk1, wk2, wk3, wk4, wk5, wk6, avalE, aactE, evPE, boundE, asNat, Nat.zero_mul, Int.tdiv_eq_ediv_of_nonneg, Int.tmod_eq_emod_of_nonneg, List.length_append, Nat.mul_one, bv_seql cellsEq_ii, bv_sneqd cellsEq_ii, Bool.not_false, Bool.not_true, decide_eq_true_eq, Bool.not_eq_true, eq_self, ne_eq, and_true, true_and, and_self, not_true_eq_false, not_false_eq_true, if_true, if_false, decide_true, decide_false, Int.toNat_natCast, Int.natCast_nonneg, List.drop_zero, List.take_zero, List.take_succ_cons, List.drop_succ_cons, readC, allOne, Bool.and_self, Bool.and_true, Bool.true_and, fillL, beq_self_eq_true, Nat.one_mul, List.drop_nil, resE, tupled, List.map_nil, List.map_cons, Option.map_some, ↓reduceIte, Nat.reduceEqDiff, Int.reduceEq, Int.reduceLT, Int.reduceLE, Nat.reduceAdd, Nat.reduceMul, Nat.reduceLT, Nat.reduceLeDiff, reduceCtorEq, List.length_nil, List.length_cons, Nat.add_zero, Nat.sub_zero, List.nil_append, List.cons_append, List.getElem?_cons_zero, List.getElem?_cons_succ, List.set_cons_zero, List.set_cons_succ, E0, E2, E8]
    have s1 : encs putA (shiftM ps d m) = encs putA out ++ [.int .i64 (2 * (m : Int) - 1), .int .u64 0] := by rw [shiftM, a2, encs_append]; rfl
    refine purify_row (fun _ => rfl) ?_ (fun _ s n c e => by cases e)
    rw [s1, shiftM, a2, List.length_append]
    exact q1
theorem reftake_no (left : Int) (n : Nat) (cs : List AV) (tk : Tk) (key : Int) (H : Heap) (hn : (n : Int) ≤ 9223372036854775807) (hc : hfL cs = true) (hr : ¬ right left n) :
    pcx (cbL tab) 26 [.int .u64 left, .sl 1 n cs tk, .int .u64 key] H = some (.plain (resT ([], 2))) := by
  obtain ⟨u1, e1, f1⟩ := lend_sl 1 n cs tk
  refine pcx_N rfl (pc_wp (fi := c26) rfl ?_ (by simp [c26]) (by decide) ?_)
  · simp only [pcOn, List.map_cons, List.map_nil, hfL, hf_lend_sl, hf_lend_int, hf_lend_bool, hf_lend_str, hfL_append, Bool.and_self, Bool.and_true, Bool.true_and, c26, hc]
  unfold c26
  rw [List.map_cons, List.map_cons, List.map_cons, List.map_nil, e1, lend_int, lend_int]
  have r1 := fun H => check_no left n cs u1 H hn hc hr
  simp (disch := omega) only [wk1, wk2, wk3, wk4, wk5, wk6, avalE, aactE, evPE, boundE, asNat, Nat.zero_mul, Int.tdiv_eq_ediv_of_nonneg, Int.tmod_eq_emod_of_nonneg, List.length_append, Nat.mul_one, bv_seql cellsEq_ii, bv_sneqd cellsEq_ii, Bool.not_false, Bool.not_true, decide_eq_true_eq, Bool.not_eq_true, eq_self, ne_eq, and_true, true_and, and_self, not_true_eq_false, not_false_eq_true, if_true, if_false, decide_true, decide_false, Int.toNat_natCast, Int.natCast_nonneg, List.drop_zero, List.take_zero, List.take_succ_cons, List.drop_succ_cons, readC, allOne, Bool.and_self, Bool.and_true, Bool.true_and, fillL, beq_self_eq_true, Nat.one_mul, List.drop_nil, resE, tupled, List.map_nil, List.map_cons, Option.map_some, ↓reduceIte, Nat.reduceEqDiff, Int.reduceEq, Int.reduceLT, Int.reduceLE, Nat.reduceAdd, Nat.reduceMul, Nat.reduceLT, Nat.reduceLeDiff, reduceCtorEq, List.length_nil, List.length_cons, Nat.add_zero, Nat.sub_zero, List.nil_append, List.cons_append, List.getElem?_cons_zero, List.getElem?_cons_succ, List.set_cons_zero, List.set_cons_succ, r1, purify, unownT, unown, AV.hf, hfL, Tk.hf, resT_nil]
theorem reftake_yes (left : Int) (ps : List (Int × Int)) (rest : List AV) (tk : Tk) (key : Int) (H : Heap) (hc : hfL rest = true) (hr : right left (2 * ps.length)) :
    pcx (cbL tab) 26 [.int .u64 left, row ps rest tk, .int .u64 key] H = some (.plain (resT (takeM left ps key))) := by
  obtain ⟨u1, e1, f1⟩ := lend_sl 1 (2 * ps.length) (encs pairA ps ++ rest) tk
  have hn := hr.2.2.2
  have hlen := rdL_le left ps
  refine pcx_N rfl (pc_wp (fi := c26) rfl ?_ (by simp [c26]) (by decide) ?_)
  · simp only [pcOn, List.map_cons, List.map_nil, hfL, hf_lend_sl, hf_lend_int, hf_lend_bool, hf_lend_str, hfL_append, Bool.and_self, Bool.and_true, Bool.true_and, c26, row, hc, hf_pairA]
  unfold c26
  rw [List.map_cons, List.map_cons, List.map_cons, List.map_nil, row, e1, lend_int, lend_int]
  have r1 := fun H => check_yes left ps rest u1 H hc hr
  have r2 := fun H => refread_px left ps rest u1 H (by omega) hc
  obtain ⟨s, tk', es, hz, htk⟩ := slvR_form 2 pairA (rdL left ps)
  have r4 := fun H => pcx_N (H := H) rfl (find_pc (rdL left ps) key s tk' (by omega) hz)
  rw [es] at r2
  simp only [row] at r1 r2 r4
  by_cases h1 : okL left ps
  case neg =>
    have hm : takeM left ps key = ([], 190) := by rw [takeM, if_neg h1]
    simp only [h1, if_false] at r1
    simp (disch := omega) only [wk1, wk2, wk3, wk4, wk5, wk6, avalE, aactE, evPE, boundE, asNat, Nat.zero_mul, Int.tdiv_eq_ediv_of_nonneg, Int.tmod_eq_emod_of_nonneg, List.length_append, Nat.mul_one, bv_seql cellsEq_ii, bv_sneqd cellsEq_ii, Bool.not_false, Bool.not_true, decide_eq_true_eq, Bool.not_eq_true, eq_self, ne_eq, and_true, true_and, and_self, not_true_eq_false, not_false_eq_true, if_true, if_false, decide_true, decide_false, Int.toNat_natCast, Int.natCast_nonneg, List.drop_zero, List.take_zero, List.take_succ_cons, List.drop_succ_cons, readC, allOne, Bool.and_self, Bool.and_true, Bool.true_and, fillL, beq_self_eq_true, Nat.one_mul, List.drop_nil, resE, tupled, List.map_nil, List.map_cons, Option.map_some, ↓reduceIte, Nat.reduceEqDiff, Int.reduceEq, Int.reduceLT, Int.reduceLE, Nat.reduceAdd, Nat.reduceMul, Nat.reduceLT, Nat.reduceLeDiff, reduceCtorEq, List.length_nil, List.length_cons, Nat.add_zero, Nat.sub_zero, List.nil_append, List.cons_append, List.getElem?_cons_zero, List.getElem?_cons_succ, List.set_cons_zero, List.set_cons_succ, r1, purify, unownT, unown, AV.hf, hfL, Tk.hf, resT_nil, hm]
  simp only [h1, if_true] at r1
  have hfl := findL_le key (rdL left ps)
  by_cases h2 : keyAtI (rdL left ps) (findL' key (rdL left ps)) key
  case neg =>
    have hm : takeM left ps key = ([], 5) := by rw [takeM, if_pos h1, if_neg h2]
    simp (disch := omega) only [wk1, wk2, wk3, wk4, wk5, wk6, avalE, aactE, evPE, boundE, asNat, Nat.zero_mul, Int.tdiv_eq_ediv_of_nonneg, Int.tmod_eq_emod_of_nonneg, List.length_append, Nat.mul_one, bv_seql cellsEq_ii, bv_sneqd cellsEq_ii, Bool.not_false, Bool.not_true, decide_eq_true_eq, Bool.not_eq_true, eq_self, ne_eq, and_true, true_and, and_self, not_true_eq_false, not_false_eq_true, if_true, if_false, decide_true, decide_false, Int.toNat_natCast, Int.natCast_nonneg, List.drop_zero, List.take_zero, List.take_succ_cons, List.drop_succ_cons, readC, allOne, Bool.and_self, Bool.and_true, Bool.true_and, fillL, beq_self_eq_true, Nat.one_mul, List.drop_nil, resE, tupled, List.map_nil, List.map_cons, Option.map_some, ↓reduceIte, Nat.reduceEqDiff, Int.reduceEq, Int.reduceLT, Int.reduceLE, Nat.reduceAdd, Nat.reduceMul, Nat.reduceLT, Nat.reduceLeDiff, reduceCtorEq, List.length_nil, List.length_cons, Nat.add_zero, Nat.sub_zero, List.nil_append, List.cons_append, List.getElem?_cons_zero, List.getElem?_cons_succ, List.set_cons_zero, List.set_cons_succ, r1, r2, r4, h2, purify, unownT, unown, AV.hf, hfL, Tk.hf, resT_nil, hm]
  obtain ⟨x, hx, _⟩ := h2
  have hlt : findL' key (rdL left ps) < (rdL left ps).length := (List.getElem?_eq_some_iff.1 hx).1
  have h2 : keyAtI (rdL left ps) (findL' key (rdL left ps)) key := ⟨x, hx, by assumption⟩
  have hm : takeM left ps key = ((2 * ((findL' key (rdL left ps) : Nat) : Int) + 1, lastP left (ps.take (findL' key (rdL left ps)))) :: shiftM ps (findL' key (rdL left ps)) (rdL left ps).length, 0) := by rw [takeM, if_pos h1, if_pos h2]
  have ha := fun H => pcx_N (H := H) rfl (ahead_pc left (ps.take (findL' key (rdL left ps))) (ps.drop (findL' key (rdL left ps))) rest u1 (by rw [List.take_append_drop]; omega) hc)
  have hl : (ps.take (findL' key (rdL left ps))).length = findL' key (rdL left ps) := by rw [List.length_take]; omega
  rw [List.take_append_drop, hl] at ha
  have sh := fun H => refshift_px ps rest u1 (findL' key (rdL left ps)) (rdL left ps).length H (by omega) hc hlt hlen
  have hsl := shF_len (findL' key (rdL left ps)) ((rdL left ps).length - 1 - findL' key (rdL left ps)) (ps.drop (findL' key (rdL left ps) + 1))
  have hsl2 : (shiftM ps (findL' key (rdL left ps)) (rdL left ps).length).length ≤ 100 := by rw [shiftM, List.length_append, List.length_singleton]; omega
  have hne : shiftM ps (findL' key (rdL left ps)) (rdL left ps).length ≠ [] := by simp [shiftM]
  simp only [row] at ha sh
  rw [hm]
  generalize shiftM ps (findL' key (rdL left ps)) (rdL left ps).length = sm at sh hsl2 hne
  simp (disch := omega) only [wk1, wk2, wk3, wk4, wk5, wk6, avalE, aactE, evPE, boundE, asNat, Nat.zero_mul, Int.tdiv_eq_ediv_of_nonneg, Int.tmod_eq_emod_of_nonneg, List.length_append, Nat.mul_one, bv_seql cellsEq_ii, bv_sneqd cellsEq_ii, Bool.not_false, Bool.not_true, decide_eq_true_eq, Bool.not_eq_true, eq_self, ne_eq, and_true, true_and, and_self, not_true_eq_false, not_false_eq_true, if_true, if_false, decide_true, decide_false, Int.toNat_natCast, Int.natCast_nonneg, List.drop_zero, List.take_zero, List.take_succ_cons, List.drop_succ_cons, readC, allOne, Bool.and_self, Bool.and_true, Bool.true_and, fillL, beq_self_eq_true, Nat.one_mul, List.drop_nil, resE, tupled, List.map_nil, List.map_cons, Option.map_some, ↓reduceIte, Nat.reduceEqDiff, Int.reduceEq, Int.reduceLT, Int.reduceLE, Nat.reduceAdd, Nat.reduceMul, Nat.reduceLT, Nat.reduceLeDiff, reduceCtorEq, List.length_nil, List.length_cons, Nat.add_zero, Nat.sub_zero, List.nil_append, List.cons_append, List.getElem?_cons_zero, List.getElem?_cons_succ, List.set_cons_zero, List.set_cons_succ, r1, r2, r4, h2, ha, sh, List.append_nil]
  refine runE_row (fun s2 tk2 H1 hz2 ho2 htk2 hup2 hle2 => ?_)
  obtain rfl := hz2 hne
  have hsp : sm.length ≠ 0 := fun e => hne (List.length_eq_zero_iff.1 e)
  have key2 : appV 2 16 (.sl 2 1 [.int .i64 (2 * ((findL' key (rdL left ps) : Nat) : Int) + 1), .int .u64 (lastP left (ps.take (findL' key (rdL left ps))))] .e) (.sl 2 sm.length (encs putA sm) tk2) H1 =
      some (.val (.sl 2 (1 + sm.length) ([.int .i64 (2 * ((findL' key (rdL left ps) : Nat) : Int) + 1), .int .u64 (lastP left (ps.take (findL' key (rdL left ps))))] ++ encs putA sm) (.own H1.length)), H1 ++ [.tok 2]) := by
    have t1 : (encs putA sm).take (sm.length * 2) = encs putA sm := List.take_of_length_le (by rw [encs_length]; exact Nat.le_refl _)
    have t2 : (encs putA sm).length = sm.length * 2 := encs_length sm
    have t3 : allOne (encs putA sm) = true := allOne_encs (fun _ => rfl) sm
    have t4 : (1 + sm.length) * 16 ≤ 70368744177664 := by omega
    have t5 : 1 + sm.length ≤ 70368744177664 := by omega
    simp [appV, hsp, t1, t2, t3, t4, t5]
  simp (disch := omega) only [wk1, wk2, wk3, wk4, wk5, wk6, avalE, aactE, evPE, boundE, asNat, Nat.zero_mul, Int.tdiv_eq_ediv_of_nonneg, Int.tmod_eq_emod_of_nonneg, List.length_append, Nat.mul_one, bv_seql cellsEq_ii, bv_sneqd cellsEq_ii, Bool.not_false, Bool.not_true, decide_eq_true_eq, Bool.not_eq_true, eq_self, ne_eq, and_true, true_and, and_self, not_true_eq_false, not_false_eq_true, if_true, if_false, decide_true, decide_false, Int.toNat_natCast, Int.natCast_nonneg, List.drop_zero, List.take_zero, List.take_succ_cons, List.drop_succ_cons, readC, allOne, Bool.and_self, Bool.and_true, Bool.true_and, fillL, beq_self_eq_true, Nat.one_mul, List.drop_nil, resE, tupled, List.map_nil, List.map_cons, Option.map_some, ↓reduceIte, Nat.reduceEqDiff, Int.reduceEq, Int.reduceLT, Int.reduceLE, Nat.reduceAdd, Nat.reduceMul, Nat.reduceLT, Nat.reduceLeDiff, reduceCtorEq, List.length_nil, List.length_cons, Nat.add_zero, Nat.sub_zero, List.nil_append, List.cons_append, List.getElem?_cons_zero, List.getElem?_cons_succ, List.set_cons_zero, List.set_cons_succ, key2]
  have s1 : encs putA ((2 * ((findL' key (rdL left ps) : Nat) : Int) + 1, lastP left (ps.take (findL' key (rdL left ps)))) :: sm) = [.int .i64 (2 * ((findL' key (rdL left ps) : Nat) : Int) + 1), .int .u64 (lastP left (ps.take (findL' key (rdL left ps))))] ++ encs putA sm := rfl
  have u2 : ∀ k n, unown (.int k n) = .int k n := fun _ _ => rfl
  have u3 : ∀ sz n cs g, unown (.sl sz n cs (.own g)) = .sl sz n cs .ro := fun _ _ _ _ => rfl
  have hres : AV.sl 2 (1 + sm.length) (encs putA ((2 * ((findL' key (rdL left ps) : Nat) : Int) + 1, lastP left (ps.take (findL' key (rdL left ps)))) :: sm)) .ro = slvR 2 putA ((2 * ((findL' key (rdL left ps) : Nat) : Int) + 1, lastP left (ps.take (findL' key (rdL left ps)))) :: sm) := by
    rw [slvR, if_neg (by simp), List.length_cons, Nat.add_comm]
  rw [s1] at hres
  simp only [List.cons_append, List.nil_append] at hres ⊢
  simp only [purify, unownT, List.map_cons, List.map_nil, u2, u3, hres, AV.hf, hfL, slvR_hf (f := putA) (fun _ => rfl), Bool.and_self, if_true, resT]
end Go.Proofs.Ytjlgpfolnhilfaa
