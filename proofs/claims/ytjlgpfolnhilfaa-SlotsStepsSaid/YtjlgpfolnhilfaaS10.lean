/- THE WALK OF Put. No condition but those stated. -/
import Derived.Test.YtjlgpfolnhilfaaS9
set_option linter.unusedSimpArgs false
set_option linter.unusedVariables false
set_option linter.unusedSectionVars false
namespace Go.Proofs.Ytjlgpfolnhilfaa
open Go Go.Am Go.Slots
set_option maxHeartbeats 4000000
set_option maxRecDepth 10000
theorem put_pan {E : Env} {H : Heap} {e : Int} {y z : AV} (E6 : E 6 = .ptr 1 0) (E7 : E 7 = .ptr 2 0) (h1 : H[1]? = some (.cells [y])) (h2 : H[2]? = some (.cells [z])) :
    Am.Ends tab [.cell 6 1 false, .cell 7 1 false] (fun o H => purify (some (o, H)) = some (.plain (resT ([], e)))) (.panic [(.iface 25 (.int .i64 e), false)]) E [.call 48 [.ptr 2 0, .fn 49 [.ptr 1 0]]] H := by
  have c1 := clearPut 1 y H h1
  have h3 : (H.set 1 (.cells [.sl 0 0 [] .z]))[2]? = some (.cells [z]) := by rw [set_ne (by omega)]; exact h2
  rw [ends_left_pan (caught_pan 2 _ _ H _ e z _ c1 h3)]
  have h4 : ((H.set 1 (.cells [.sl 0 0 [] .z])).set 2 (.cells [.int .i64 e]))[1]? = some (.cells [.sl 0 0 [] .z]) := by rw [set_ne (by omega)]; exact set_eq h1
  have h5 : ((H.set 1 (.cells [.sl 0 0 [] .z])).set 2 (.cells [.int .i64 e]))[2]? = some (.cells [.int .i64 e]) := set_eq h3
  simp (disch := omega) only [wk1, wk2, wk3, wk4, wk5, wk6, avalE, aactE, evPE, boundE, asNat, Nat.zero_mul, Int.tdiv_eq_ediv_of_nonneg, Int.tmod_eq_emod_of_nonneg, List.length_append, Nat.mul_one, bv_seql cellsEq_ii, bv_sneqd cellsEq_ii, Bool.not_false, Bool.not_true, decide_eq_true_eq, Bool.not_eq_true, eq_self, ne_eq, and_true, true_and, and_self, not_true_eq_false, not_false_eq_true, if_true, if_false, decide_true, decide_false, Int.toNat_natCast, Int.natCast_nonneg, List.drop_zero, List.take_zero, List.take_succ_cons, List.drop_succ_cons, readC, allOne, Bool.and_self, Bool.and_true, Bool.true_and, fillL, beq_self_eq_true, Nat.one_mul, List.drop_nil, resE, tupled, List.map_nil, List.map_cons, Option.map_some, ↓reduceIte, Nat.reduceEqDiff, Int.reduceEq, Int.reduceLT, Int.reduceLE, Nat.reduceAdd, Nat.reduceMul, Nat.reduceLT, Nat.reduceLeDiff, reduceCtorEq, List.length_nil, List.length_cons, Nat.add_zero, Nat.sub_zero, List.nil_append, List.cons_append, List.getElem?_cons_zero, List.getElem?_cons_succ, List.set_cons_zero, List.set_cons_succ, E6, E7, h4, h5, purify, unownT, unown, AV.hf, hfL, Tk.hf, resT_nil]
theorem slotsput_no (left : Int) (n : Nat) (cs : List AV) (tk : Tk) (p : Int × Int) (H : Heap) (hn : (n : Int) ≤ 9223372036854775807) (hc : hfL cs = true) (hr : ¬ (right left n ∧ p.2 ≠ 0 ∧ p.2 ≠ left)) :
    pcx (cbL tab) 20 [.int .u64 left, .sl 1 n cs tk, .agg (pairA p)] H = some (.plain (resT ([], 2))) := by
  obtain ⟨u1, e1, f1⟩ := lend_sl 1 n cs tk
  have ep : lend (.agg (pairA p)) = .agg (pairA p) := rfl
  refine pcx_N rfl (pc_wp (fi := c20) rfl ?_ (by simp [c20]) (by decide) ?_)
  · simp only [pcOn, List.map_cons, List.map_nil, hfL, hf_lend_sl, hf_lend_int, hf_lend_bool, hf_lend_str, hfL_append, Bool.and_self, Bool.and_true, Bool.true_and, c20, hc, ep]; rfl
  unfold c20
  rw [List.map_cons, List.map_cons, List.map_cons, List.map_nil, e1, lend_int, ep]
  have r1 := fun H => comes_no n cs u1 left p H hn hc hr
  simp only [pairA, rowV] at r1
  clear hr
  simp (disch := omega) only [wk1, wk2, wk3, wk4, wk5, wk6, avalE, aactE, evPE, boundE, asNat, Nat.zero_mul, Int.tdiv_eq_ediv_of_nonneg, Int.tmod_eq_emod_of_nonneg, List.length_append, Nat.mul_one, bv_seql cellsEq_ii, bv_sneqd cellsEq_ii, Bool.not_false, Bool.not_true, decide_eq_true_eq, Bool.not_eq_true, eq_self, ne_eq, and_true, true_and, and_self, not_true_eq_false, not_false_eq_true, if_true, if_false, decide_true, decide_false, Int.toNat_natCast, Int.natCast_nonneg, List.drop_zero, List.take_zero, List.take_succ_cons, List.drop_succ_cons, readC, allOne, Bool.and_self, Bool.and_true, Bool.true_and, fillL, beq_self_eq_true, Nat.one_mul, List.drop_nil, resE, tupled, List.map_nil, List.map_cons, Option.map_some, ↓reduceIte, Nat.reduceEqDiff, Int.reduceEq, Int.reduceLT, Int.reduceLE, Nat.reduceAdd, Nat.reduceMul, Nat.reduceLT, Nat.reduceLeDiff, reduceCtorEq, List.length_nil, List.length_cons, Nat.add_zero, Nat.sub_zero, List.nil_append, List.cons_append, List.getElem?_cons_zero, List.getElem?_cons_succ, List.set_cons_zero, List.set_cons_succ, pairA, r1, List.append_nil]
  refine put_pan (e := 2) (y := .sl 0 0 [] .z) (z := .int .i64 0) ?_ ?_ ?_ ?_ <;> first | rfl | simp only [upd_app, updD_some, updD_none, ↓reduceIte, Nat.reduceEqDiff, if_true, if_false, List.length_append, List.length_cons, List.length_nil, Nat.zero_add, Nat.add_zero, cast_succ, argE_zero, argE_succ]
theorem slotsput_yes (left : Int) (ps : List (Int × Int)) (rest : List AV) (tk : Tk) (p : Int × Int) (H : Heap) (hc : hfL rest = true) (hr : right left (2 * ps.length)) (hp : p.2 ≠ 0) (hp2 : p.2 ≠ left) :
    pcx (cbL tab) 20 [.int .u64 left, row ps rest tk, .agg (pairA p)] H = some (.plain (resT (putM left ps p))) := by
  obtain ⟨u1, e1, f1⟩ := lend_sl 1 (2 * ps.length) (encs pairA ps ++ rest) tk
  have ep : lend (.agg (pairA p)) = .agg (pairA p) := rfl
  have hcs : hfL (encs pairA ps ++ rest) = true := by rw [hfL_append, hf_pairA, hc]; rfl
  have hn := hr.2.2.2
  have hlen := rdL_le left ps
  refine pcx_N rfl (pc_wp (fi := c20) rfl ?_ (by simp [c20]) (by decide) ?_)
  · simp only [pcOn, List.map_cons, List.map_nil, hfL, hf_lend_sl, hf_lend_int, hf_lend_bool, hf_lend_str, hfL_append, Bool.and_self, Bool.and_true, Bool.true_and, c20, row, hc, hf_pairA, ep]; rfl
  unfold c20
  rw [List.map_cons, List.map_cons, List.map_cons, List.map_nil, row, e1, lend_int, ep]
  have r1 := fun H => comes_yes ps rest u1 left p H hc hr hp hp2
  have mn := fun H => many_px (2 * ps.length) (encs pairA ps ++ rest) u1 H (by omega) hcs f1
  simp only [pairA, rowV] at r1
  by_cases h1 : okL left ps
  case neg =>
    have hm : putM left ps p = ([], 190) := by simp [putM, pointerE, h1]
    rw [hm]
    simp only [comesR, h1, if_false] at r1
    simp (disch := omega) only [wk1, wk2, wk3, wk4, wk5, wk6, avalE, aactE, evPE, boundE, asNat, Nat.zero_mul, Int.tdiv_eq_ediv_of_nonneg, Int.tmod_eq_emod_of_nonneg, List.length_append, Nat.mul_one, bv_seql cellsEq_ii, bv_sneqd cellsEq_ii, Bool.not_false, Bool.not_true, decide_eq_true_eq, Bool.not_eq_true, eq_self, ne_eq, and_true, true_and, and_self, not_true_eq_false, not_false_eq_true, if_true, if_false, decide_true, decide_false, Int.toNat_natCast, Int.natCast_nonneg, List.drop_zero, List.take_zero, List.take_succ_cons, List.drop_succ_cons, readC, allOne, Bool.and_self, Bool.and_true, Bool.true_and, fillL, beq_self_eq_true, Nat.one_mul, List.drop_nil, resE, tupled, List.map_nil, List.map_cons, Option.map_some, ↓reduceIte, Nat.reduceEqDiff, Int.reduceEq, Int.reduceLT, Int.reduceLE, Nat.reduceAdd, Nat.reduceMul, Nat.reduceLT, Nat.reduceLeDiff, reduceCtorEq, List.length_nil, List.length_cons, Nat.add_zero, Nat.sub_zero, List.nil_append, List.cons_append, List.getElem?_cons_zero, List.getElem?_cons_succ, List.set_cons_zero, List.set_cons_succ, pairA, r1, List.append_nil]
    refine put_pan (e := 190) (y := .sl 0 0 [] .z) (z := .int .i64 0) ?_ ?_ ?_ ?_ <;> first | rfl | simp only [upd_app, updD_some, updD_none, ↓reduceIte, Nat.reduceEqDiff, if_true, if_false, List.length_append, List.length_cons, List.length_nil, Nat.zero_add, Nat.add_zero, cast_succ, argE_zero, argE_succ]
  by_cases h2 : hasL (rdL left ps) p.2
  case pos =>
    have hm : putM left ps p = ([], 2) := by simp [putM, pointerE, h1, h2]
    rw [hm]
    simp only [comesR, h1, h2, if_true] at r1
    simp (disch := omega) only [wk1, wk2, wk3, wk4, wk5, wk6, avalE, aactE, evPE, boundE, asNat, Nat.zero_mul, Int.tdiv_eq_ediv_of_nonneg, Int.tmod_eq_emod_of_nonneg, List.length_append, Nat.mul_one, bv_seql cellsEq_ii, bv_sneqd cellsEq_ii, Bool.not_false, Bool.not_true, decide_eq_true_eq, Bool.not_eq_true, eq_self, ne_eq, and_true, true_and, and_self, not_true_eq_false, not_false_eq_true, if_true, if_false, decide_true, decide_false, Int.toNat_natCast, Int.natCast_nonneg, List.drop_zero, List.take_zero, List.take_succ_cons, List.drop_succ_cons, readC, allOne, Bool.and_self, Bool.and_true, Bool.true_and, fillL, beq_self_eq_true, Nat.one_mul, List.drop_nil, resE, tupled, List.map_nil, List.map_cons, Option.map_some, ↓reduceIte, Nat.reduceEqDiff, Int.reduceEq, Int.reduceLT, Int.reduceLE, Nat.reduceAdd, Nat.reduceMul, Nat.reduceLT, Nat.reduceLeDiff, reduceCtorEq, List.length_nil, List.length_cons, Nat.add_zero, Nat.sub_zero, List.nil_append, List.cons_append, List.getElem?_cons_zero, List.getElem?_cons_succ, List.set_cons_zero, List.set_cons_succ, pairA, r1, List.append_nil]
    refine put_pan (e := 2) (y := .sl 0 0 [] .z) (z := .int .i64 0) ?_ ?_ ?_ ?_ <;> first | rfl | simp only [upd_app, updD_some, updD_none, ↓reduceIte, Nat.reduceEqDiff, if_true, if_false, List.length_append, List.length_cons, List.length_nil, Nat.zero_add, Nat.add_zero, cast_succ, argE_zero, argE_succ]
  simp only [comesR, h1, h2, if_true, if_false] at r1
  obtain ⟨s, tk', es, hz, htk⟩ := slvR_form 2 pairA (rdL left ps)
  rw [es] at r1
  by_cases h3 : keyAtI (rdL left ps) (findL' p.1 (rdL left ps)) p.1
  case pos =>
    have hm : putM left ps p = ([], 191) := by simp [putM, pointerE, h1, h2, h3]
    rw [hm]
    simp (disch := omega) only [wk1, wk2, wk3, wk4, wk5, wk6, avalE, aactE, evPE, boundE, asNat, Nat.zero_mul, Int.tdiv_eq_ediv_of_nonneg, Int.tmod_eq_emod_of_nonneg, List.length_append, Nat.mul_one, bv_seql cellsEq_ii, bv_sneqd cellsEq_ii, Bool.not_false, Bool.not_true, decide_eq_true_eq, Bool.not_eq_true, eq_self, ne_eq, and_true, true_and, and_self, not_true_eq_false, not_false_eq_true, if_true, if_false, decide_true, decide_false, Int.toNat_natCast, Int.natCast_nonneg, List.drop_zero, List.take_zero, List.take_succ_cons, List.drop_succ_cons, readC, allOne, Bool.and_self, Bool.and_true, Bool.true_and, fillL, beq_self_eq_true, Nat.one_mul, List.drop_nil, resE, tupled, List.map_nil, List.map_cons, Option.map_some, ↓reduceIte, Nat.reduceEqDiff, Int.reduceEq, Int.reduceLT, Int.reduceLE, Nat.reduceAdd, Nat.reduceMul, Nat.reduceLT, Nat.reduceLeDiff, reduceCtorEq, List.length_nil, List.length_cons, Nat.add_zero, Nat.sub_zero, List.nil_append, List.cons_append, List.getElem?_cons_zero, List.getElem?_cons_succ, List.set_cons_zero, List.set_cons_succ, pairA, r1, h3, must_f, List.append_nil]
    refine put_pan (e := 191) (y := .sl 0 0 [] .z) (z := .int .i64 0) ?_ ?_ ?_ ?_ <;> first | rfl | simp only [upd_app, updD_some, updD_none, ↓reduceIte, Nat.reduceEqDiff, if_true, if_false, List.length_append, List.length_cons, List.length_nil, Nat.zero_add, Nat.add_zero, cast_succ, argE_zero, argE_succ]
  by_cases h4 : (rdL left ps).length + 1 < ps.length
  case neg =>
    have hm : putM left ps p = ([], 3) := by simp [putM, pointerE, h1, h2, h3, h4]
    rw [hm]
    have h4' : ¬ ((rdL left ps).length : Int) + 1 < ((2 * ps.length : Nat) : Int) / 2 := by omega
    simp (disch := omega) only [wk1, wk2, wk3, wk4, wk5, wk6, avalE, aactE, evPE, boundE, asNat, Nat.zero_mul, Int.tdiv_eq_ediv_of_nonneg, Int.tmod_eq_emod_of_nonneg, List.length_append, Nat.mul_one, bv_seql cellsEq_ii, bv_sneqd cellsEq_ii, Bool.not_false, Bool.not_true, decide_eq_true_eq, Bool.not_eq_true, eq_self, ne_eq, and_true, true_and, and_self, not_true_eq_false, not_false_eq_true, if_true, if_false, decide_true, decide_false, Int.toNat_natCast, Int.natCast_nonneg, List.drop_zero, List.take_zero, List.take_succ_cons, List.drop_succ_cons, readC, allOne, Bool.and_self, Bool.and_true, Bool.true_and, fillL, beq_self_eq_true, Nat.one_mul, List.drop_nil, resE, tupled, List.map_nil, List.map_cons, Option.map_some, ↓reduceIte, Nat.reduceEqDiff, Int.reduceEq, Int.reduceLT, Int.reduceLE, Nat.reduceAdd, Nat.reduceMul, Nat.reduceLT, Nat.reduceLeDiff, reduceCtorEq, List.length_nil, List.length_cons, Nat.add_zero, Nat.sub_zero, List.nil_append, List.cons_append, List.getElem?_cons_zero, List.getElem?_cons_succ, List.set_cons_zero, List.set_cons_succ, pairA, r1, h3, must_t, must_f, mn, h4', List.append_nil]
    refine put_pan (e := 3) (y := .sl 0 0 [] .z) (z := .int .i64 0) ?_ ?_ ?_ ?_ <;> first | rfl | simp only [upd_app, updD_some, updD_none, ↓reduceIte, Nat.reduceEqDiff, if_true, if_false, List.length_append, List.length_cons, List.length_nil, Nat.zero_add, Nat.add_zero, cast_succ, argE_zero, argE_succ]
  have h4' : ((rdL left ps).length : Int) + 1 < ((2 * ps.length : Nat) : Int) / 2 := by omega
  have hfl := findL_le p.1 (rdL left ps)
  rw [putM, if_neg (by simp [pointerE, h1, h2]), if_neg h3, if_pos h4]
  have pa1 := fun H => ptrAt_px ((rdL left ps).length + 1) H (by omega)
  simp only [cast_succ] at pa1
  have e3 : 2 * (((rdL left ps).length : Int) + 1) + 1 = 2 * ((rdL left ps).length : Int) + 3 := by omega
  rw [e3] at pa1
  simp (disch := omega) only [wk1, wk2, wk3, wk4, wk5, wk6, avalE, aactE, evPE, boundE, asNat, Nat.zero_mul, Int.tdiv_eq_ediv_of_nonneg, Int.tmod_eq_emod_of_nonneg, List.length_append, Nat.mul_one, bv_seql cellsEq_ii, bv_sneqd cellsEq_ii, Bool.not_false, Bool.not_true, decide_eq_true_eq, Bool.not_eq_true, eq_self, ne_eq, and_true, true_and, and_self, not_true_eq_false, not_false_eq_true, if_true, if_false, decide_true, decide_false, Int.toNat_natCast, Int.natCast_nonneg, List.drop_zero, List.take_zero, List.take_succ_cons, List.drop_succ_cons, readC, allOne, Bool.and_self, Bool.and_true, Bool.true_and, fillL, beq_self_eq_true, Nat.one_mul, List.drop_nil, resE, tupled, List.map_nil, List.map_cons, Option.map_some, ↓reduceIte, Nat.reduceEqDiff, Int.reduceEq, Int.reduceLT, Int.reduceLE, Nat.reduceAdd, Nat.reduceMul, Nat.reduceLT, Nat.reduceLeDiff, reduceCtorEq, List.length_nil, List.length_cons, Nat.add_zero, Nat.sub_zero, List.nil_append, List.cons_append, List.getElem?_cons_zero, List.getElem?_cons_succ, List.set_cons_zero, List.set_cons_succ, pairA, r1, h3, must_t, mn, h4', pa1, List.append_nil]
  have hdl := dnF_len (findL' p.1 (rdL left ps)) ((rdL left ps).drop (findL' p.1 (rdL left ps)))
  rw [List.length_drop] at hdl
  have hrow : ∃ rv, rv = AObj.cells [.sl 1 (2 * ps.length) (encs pairA ps ++ rest) u1, .int .u64 left] := ⟨_, rfl⟩
  obtain ⟨rv, hrv⟩ := hrow
  refine put_run (ws := [(2 * ((rdL left ps).length : Int) + 3, 0)]) (l := []) (by simp) (by simp) (.inl ⟨.inl rfl, rfl, rfl⟩) (by intro a b c e; cases e) rfl (by simp; omega) (fun v' H' k1 k2 k3 k4 => ?_)
  have g0 := k3 0 _ rfl (by simp [tokOf])
  have g1 := k3 1 _ rfl (by simp [tokOf])
  have g2 := k3 2 _ rfl (by simp [tokOf])
  have g3 := k3 3 _ rfl (by simp [tokOf])
  have vone : ∀ {v : AV} {n : Nat} {cs : List AV} {H : Heap}, Own H 2 v n cs → v.one = true ∧ v.flat = [v] := by
    intro v n cs H h
    rcases h with ⟨rfl | rfl, _⟩ | ⟨_, g, rfl, _⟩ <;> exact ⟨rfl, rfl⟩
  have v1 := vone k1
  simp (disch := omega) only [wk1, wk2, wk3, wk4, wk5, wk6, avalE, aactE, evPE, boundE, asNat, Nat.zero_mul, Int.tdiv_eq_ediv_of_nonneg, Int.tmod_eq_emod_of_nonneg, List.length_append, Nat.mul_one, bv_seql cellsEq_ii, bv_sneqd cellsEq_ii, Bool.not_false, Bool.not_true, decide_eq_true_eq, Bool.not_eq_true, eq_self, ne_eq, and_true, true_and, and_self, not_true_eq_false, not_false_eq_true, if_true, if_false, decide_true, decide_false, Int.toNat_natCast, Int.natCast_nonneg, List.drop_zero, List.take_zero, List.take_succ_cons, List.drop_succ_cons, readC, allOne, Bool.and_self, Bool.and_true, Bool.true_and, fillL, beq_self_eq_true, Nat.one_mul, List.drop_nil, resE, tupled, List.map_nil, List.map_cons, Option.map_some, ↓reduceIte, Nat.reduceEqDiff, Int.reduceEq, Int.reduceLT, Int.reduceLE, Nat.reduceAdd, Nat.reduceMul, Nat.reduceLT, Nat.reduceLeDiff, reduceCtorEq, List.length_nil, List.length_cons, Nat.add_zero, Nat.sub_zero, List.nil_append, List.cons_append, List.getElem?_cons_zero, List.getElem?_cons_succ, List.set_cons_zero, List.set_cons_succ, g1, v1.1, v1.2, List.append_nil]
  generalize hi : findL' p.1 (rdL left ps) = i at *
  refine loop_ind (fun (x : List (Int × Int) × List (Int × Int) × List (Int × Int)) E df H => (rdL left ps).drop i = x.1 ++ x.2.1 ∧ (2 * ((rdL left ps).length : Int) + 3, 0) :: dnF i ((rdL left ps).drop i) = x.2.2 ++ dnF i x.1 ∧
      E 5 = .ptr 0 0 ∧ E 6 = .ptr 1 0 ∧ E 7 = .ptr 2 0 ∧ E 8 = .ptr 3 0 ∧ E 9 = .sl s (rdL left ps).length (encs pairA (rdL left ps)) tk' ∧ E 10 = .int .i64 (i : Nat) ∧ E 13 = .int .i64 (((i + x.1.length : Nat) : Int) - 1) ∧ df = [.call 48 [.ptr 2 0, .fn 49 [.ptr 1 0]]] ∧
      H[0]? = some (.cells [.int .u64 p.1, .int .u64 p.2]) ∧ H[2]? = some (.cells [.int .i64 0]) ∧ H[3]? = some (.cells [.sl 1 (2 * ps.length) (encs pairA ps ++ rest) u1, .int .u64 left]) ∧
      ∃ v, H[1]? = some (.cells [v]) ∧ Own H 2 v x.2.2.length (encs putA x.2.2) ∧ (∀ a b c, v ≠ .sl a b c .e))
    (fun x => x.1.length) ((rdL left ps).drop i, [], [(2 * ((rdL left ps).length : Int) + 3, 0)]) (by decide) (.inl rfl) ⟨by simp, rfl, by simp only [upd_app, updD_some, updD_none, ↓reduceIte, Nat.reduceEqDiff, if_true, if_false, List.length_append, List.length_cons, List.length_nil, Nat.zero_add, Nat.add_zero, cast_succ, argE_zero, argE_succ], by simp only [upd_app, updD_some, updD_none, ↓reduceIte, Nat.reduceEqDiff, if_true, if_false, List.length_append, List.length_cons, List.length_nil, Nat.zero_add, Nat.add_zero, cast_succ, argE_zero, argE_succ], by simp only [upd_app, updD_some, updD_none, ↓reduceIte, Nat.reduceEqDiff, if_true, if_false, List.length_append, List.length_cons, List.length_nil, Nat.zero_add, Nat.add_zero, cast_succ, argE_zero, argE_succ], by simp only [upd_app, updD_some, updD_none, ↓reduceIte, Nat.reduceEqDiff, if_true, if_false, List.length_append, List.length_cons, List.length_nil, Nat.zero_add, Nat.add_zero, cast_succ, argE_zero, argE_succ], by simp only [upd_app, updD_some, updD_none, ↓reduceIte, Nat.reduceEqDiff, if_true, if_false, List.length_append, List.length_cons, List.length_nil, Nat.zero_add, Nat.add_zero, cast_succ, argE_zero, argE_succ], by simp only [upd_app, updD_some, updD_none, ↓reduceIte, Nat.reduceEqDiff, if_true, if_false, List.length_append, List.length_cons, List.length_nil, Nat.zero_add, Nat.add_zero, cast_succ, argE_zero, argE_succ], ?_, rfl, by rw [set_ne (by omega)]; exact g0, by rw [set_ne (by omega)]; exact g2, by rw [set_ne (by omega)]; exact g3, v', set_eq g1, k1.set g1 (by intro s e; cases e), k2⟩ ?_
  · simp only [upd_app, updD_some, updD_none, ↓reduceIte, Nat.reduceEqDiff, if_true, if_false, List.length_append, List.length_cons, List.length_nil, Nat.zero_add, Nat.add_zero, cast_succ, argE_zero, argE_succ, List.length_drop]
    congr 1
    omega
  intro ⟨mid, don, out⟩ E df H ih hP
  obtain ⟨a1, a2, E5, E6, E7, E8, E9, E10, E13, hdf, hH0, hH2, hH3, v, hH1, o1, z1⟩ := hP
  dsimp only at a1 a2 E13 o1
  subst hdf
  have hlm : (rdL left ps).length = i + mid.length + don.length := by
    have := congrArg List.length a1
    rw [List.length_drop, List.length_append] at this
    omega
  have hol : out.length + 2 * mid.length = 1 + 2 * ((rdL left ps).length - i) := by
    have := congrArg List.length a2
    simp only [List.length_cons, List.length_append, dnF_len, List.length_drop] at this
    omega
  rcases List.eq_nil_or_concat mid with rfl | ⟨mid', x, rfl⟩
  · simp only [List.length_nil, Nat.add_zero] at E13 hlm hol
    simp only [dnF, List.append_nil] at a2
    have ha := fun H => slotsahead_px left (ps.take i) (ps.drop i) rest u1 H (by rw [List.take_append_drop]; omega) hc f1
    have hl : (ps.take i).length = i := by rw [List.length_take]; omega
    rw [List.take_append_drop, hl] at ha
    simp only [rowV] at ha
    have pa := fun H => ptrAt_px i H (by omega)
    have ka := fun H => keyAt_px i H (by omega)
    simp (disch := omega) only [wk1, wk2, wk3, wk4, wk5, wk6, avalE, aactE, evPE, boundE, asNat, Nat.zero_mul, Int.tdiv_eq_ediv_of_nonneg, Int.tmod_eq_emod_of_nonneg, List.length_append, Nat.mul_one, bv_seql cellsEq_ii, bv_sneqd cellsEq_ii, Bool.not_false, Bool.not_true, decide_eq_true_eq, Bool.not_eq_true, eq_self, ne_eq, and_true, true_and, and_self, not_true_eq_false, not_false_eq_true, if_true, if_false, decide_true, decide_false, Int.toNat_natCast, Int.natCast_nonneg, List.drop_zero, List.take_zero, List.take_succ_cons, List.drop_succ_cons, readC, allOne, Bool.and_self, Bool.and_true, Bool.true_and, fillL, beq_self_eq_true, Nat.one_mul, List.drop_nil, resE, tupled, List.map_nil, List.map_cons, Option.map_some, ↓reduceIte, Nat.reduceEqDiff, Int.reduceEq, Int.reduceLT, Int.reduceLE, Nat.reduceAdd, Nat.reduceMul, Nat.reduceLT, Nat.reduceLeDiff, reduceCtorEq, List.length_nil, List.length_cons, Nat.add_zero, Nat.sub_zero, List.nil_append, List.cons_append, List.getElem?_cons_zero, List.getElem?_cons_succ, List.set_cons_zero, List.set_cons_succ, E5, E6, E7, E8, E9, E10, E13, hH0, hH1, hH3, ha, pa, ka, List.append_nil]
    refine put_run (ws := [(2 * (i : Int) + 1, lastP left (ps.take i)), (2 * (i : Int), p.1), (2 * (i : Int) + 1, p.2)]) (l := out) (by simp; omega) (by simp) o1 z1 rfl (by simp; omega) (fun v2 H2 m1 m2 m3 m4 => ?_)
    have j1 := m3.cells o1 rfl hH1 (by intro s e; cases e)
    have j2 := m3.cells o1 rfl hH2 (by intro s e; cases e)
    have v2o := vone m1
    have j3 : (H2.set 1 (.cells [v2]))[2]? = some (.cells [.int .i64 0]) := by rw [set_ne (by omega)]; exact j2
    have j4 : ((H2.set 1 (.cells [v2])).set 2 (.cells [.int .i64 0]))[1]? = some (.cells [v2]) := by rw [set_ne (by omega)]; exact set_eq j1
    have j5 : ((H2.set 1 (.cells [v2])).set 2 (.cells [.int .i64 0]))[2]? = some (.cells [.int .i64 0]) := set_eq j3
    simp (disch := omega) only [wk1, wk2, wk3, wk4, wk5, wk6, avalE, aactE, evPE, boundE, asNat, Nat.zero_mul, Int.tdiv_eq_ediv_of_nonneg, Int.tmod_eq_emod_of_nonneg, List.length_append, Nat.mul_one, bv_seql cellsEq_ii, bv_sneqd cellsEq_ii, Bool.not_false, Bool.not_true, decide_eq_true_eq, Bool.not_eq_true, eq_self, ne_eq, and_true, true_and, and_self, not_true_eq_false, not_false_eq_true, if_true, if_false, decide_true, decide_false, Int.toNat_natCast, Int.natCast_nonneg, List.drop_zero, List.take_zero, List.take_succ_cons, List.drop_succ_cons, readC, allOne, Bool.and_self, Bool.and_true, Bool.true_and, fillL, beq_self_eq_true, Nat.one_mul, List.drop_nil, resE, tupled, List.map_nil, List.map_cons, Option.map_some, ↓reduceIte, Nat.reduceEqDiff, Int.reduceEq, Int.reduceLT, Int.reduceLE, Nat.reduceAdd, Nat.reduceMul, Nat.reduceLT, Nat.reduceLeDiff, reduceCtorEq, List.length_nil, List.length_cons, Nat.add_zero, Nat.sub_zero, List.nil_append, List.cons_append, List.getElem?_cons_zero, List.getElem?_cons_succ, List.set_cons_zero, List.set_cons_succ, E6, E7, j1, j3, v2o.1, v2o.2, List.append_nil]
    rw [ends_left_ret (caught_ret _ _ _ _)]
    simp (disch := omega) only [wk1, wk2, wk3, wk4, wk5, wk6, avalE, aactE, evPE, boundE, asNat, Nat.zero_mul, Int.tdiv_eq_ediv_of_nonneg, Int.tmod_eq_emod_of_nonneg, List.length_append, Nat.mul_one, bv_seql cellsEq_ii, bv_sneqd cellsEq_ii, Bool.not_false, Bool.not_true, decide_eq_true_eq, Bool.not_eq_true, eq_self, ne_eq, and_true, true_and, and_self, not_true_eq_false, not_false_eq_true, if_true, if_false, decide_true, decide_false, Int.toNat_natCast, Int.natCast_nonneg, List.drop_zero, List.take_zero, List.take_succ_cons, List.drop_succ_cons, readC, allOne, Bool.and_self, Bool.and_true, Bool.true_and, fillL, beq_self_eq_true, Nat.one_mul, List.drop_nil, resE, tupled, List.map_nil, List.map_cons, Option.map_some, ↓reduceIte, Nat.reduceEqDiff, Int.reduceEq, Int.reduceLT, Int.reduceLE, Nat.reduceAdd, Nat.reduceMul, Nat.reduceLT, Nat.reduceLeDiff, reduceCtorEq, List.length_nil, List.length_cons, Nat.add_zero, Nat.sub_zero, List.nil_append, List.cons_append, List.getElem?_cons_zero, List.getElem?_cons_succ, List.set_cons_zero, List.set_cons_succ, E6, E7, j4, j5]
    have w1 := own_unown m1 m2
    have u2 : unown (.int .i64 0) = .int .i64 0 := rfl
    rw [← List.cons_append, a2]
    simp only [purify, unownT, List.map_cons, List.map_nil, w1, u2, AV.hf, hfL, slvR_hf (f := putA) (fun _ => rfl), Bool.and_self, if_true, resT]
  · simp only [List.concat_eq_append, List.length_append, List.length_cons, List.length_nil, Nat.zero_add] at *
    have hJ : ((i + (mid'.length + 1) : Nat) : Int) - 1 = ((i + mid'.length : Nat) : Int) := by omega
    rw [hJ] at E13
    rw [dnF_snoc] at a2
    generalize hJd : i + mid'.length = J at E13 a2 hJ hlm
    have hget : (rdL left ps)[J]? = some x := by
      have : ((rdL left ps).drop i)[mid'.length]? = some x := by rw [a1]; simp
      rw [List.getElem?_drop, hJd] at this
      exact this
    have dd := drop_at (f := pairA) (rdL left ps) J hget
    obtain rfl := hz (by intro e; rw [e] at hget; simp at hget)
    have pa := fun H => ptrAt_px (J + 1) H (by omega)
    have ka := fun H => keyAt_px (J + 1) H (by omega)
    simp only [cast_succ] at pa ka
    have e4 : 2 * ((J : Int) + 1) + 1 = 2 * (J : Int) + 3 := by omega
    have e5 : 2 * ((J : Int) + 1) = 2 * (J : Int) + 2 := by omega
    rw [e4] at pa
    rw [e5] at ka
    simp only [pairA, List.cons_append, List.nil_append] at dd
    simp (disch := omega) only [wk1, wk2, wk3, wk4, wk5, wk6, avalE, aactE, evPE, boundE, asNat, Nat.zero_mul, Int.tdiv_eq_ediv_of_nonneg, Int.tmod_eq_emod_of_nonneg, List.length_append, Nat.mul_one, bv_seql cellsEq_ii, bv_sneqd cellsEq_ii, Bool.not_false, Bool.not_true, decide_eq_true_eq, Bool.not_eq_true, eq_self, ne_eq, and_true, true_and, and_self, not_true_eq_false, not_false_eq_true, if_true, if_false, decide_true, decide_false, Int.toNat_natCast, Int.natCast_nonneg, List.drop_zero, List.take_zero, List.take_succ_cons, List.drop_succ_cons, readC, allOne, Bool.and_self, Bool.and_true, Bool.true_and, fillL, beq_self_eq_true, Nat.one_mul, List.drop_nil, resE, tupled, List.map_nil, List.map_cons, Option.map_some, ↓reduceIte, Nat.reduceEqDiff, Int.reduceEq, Int.reduceLT, Int.reduceLE, Nat.reduceAdd, Nat.reduceMul, Nat.reduceLT, Nat.reduceLeDiff, reduceCtorEq, List.length_nil, List.length_cons, Nat.add_zero, Nat.sub_zero, List.nil_append, List.cons_append, List.getElem?_cons_zero, List.getElem?_cons_succ, List.set_cons_zero, List.set_cons_succ, E5, E6, E7, E8, E9, E10, E13, hH1, dd, pa, ka, List.append_nil]
    refine put_run (ws := [(2 * (J : Int) + 3, x.2), (2 * (J : Int) + 2, x.1)]) (l := out) (by simp; omega) (by simp) o1 z1 rfl (by simp; omega) (fun v2 H2 m1 m2 m3 m4 => ?_)
    have j0 := m3.cells o1 rfl hH0 (by intro s e; cases e)
    have j1 := m3.cells o1 rfl hH1 (by intro s e; cases e)
    have j2 := m3.cells o1 rfl hH2 (by intro s e; cases e)
    have j3 := m3.cells o1 rfl hH3 (by intro s e; cases e)
    have v2o := vone m1
    simp (disch := omega) only [wk1, wk2, wk3, wk4, wk5, wk6, avalE, aactE, evPE, boundE, asNat, Nat.zero_mul, Int.tdiv_eq_ediv_of_nonneg, Int.tmod_eq_emod_of_nonneg, List.length_append, Nat.mul_one, bv_seql cellsEq_ii, bv_sneqd cellsEq_ii, Bool.not_false, Bool.not_true, decide_eq_true_eq, Bool.not_eq_true, eq_self, ne_eq, and_true, true_and, and_self, not_true_eq_false, not_false_eq_true, if_true, if_false, decide_true, decide_false, Int.toNat_natCast, Int.natCast_nonneg, List.drop_zero, List.take_zero, List.take_succ_cons, List.drop_succ_cons, readC, allOne, Bool.and_self, Bool.and_true, Bool.true_and, fillL, beq_self_eq_true, Nat.one_mul, List.drop_nil, resE, tupled, List.map_nil, List.map_cons, Option.map_some, ↓reduceIte, Nat.reduceEqDiff, Int.reduceEq, Int.reduceLT, Int.reduceLE, Nat.reduceAdd, Nat.reduceMul, Nat.reduceLT, Nat.reduceLeDiff, reduceCtorEq, List.length_nil, List.length_cons, Nat.add_zero, Nat.sub_zero, List.nil_append, List.cons_append, List.getElem?_cons_zero, List.getElem?_cons_succ, List.set_cons_zero, List.set_cons_succ, E5, E6, E7, E8, E9, E10, E13, j1, v2o.1, v2o.2, List.append_nil]
    refine ih (mid', x :: don, out ++ [(2 * (J : Int) + 3, x.2), (2 * (J : Int) + 2, x.1)]) _ _ _ (by simp) ?_
    refine ⟨by simp [a1], by rw [a2]; simp, by simp only [upd_app, updD_some, updD_none, ↓reduceIte, Nat.reduceEqDiff, if_true, if_false, List.length_append, List.length_cons, List.length_nil, Nat.zero_add, Nat.add_zero, cast_succ, argE_zero, argE_succ, E5], by simp only [upd_app, updD_some, updD_none, ↓reduceIte, Nat.reduceEqDiff, if_true, if_false, List.length_append, List.length_cons, List.length_nil, Nat.zero_add, Nat.add_zero, cast_succ, argE_zero, argE_succ, E6], by simp only [upd_app, updD_some, updD_none, ↓reduceIte, Nat.reduceEqDiff, if_true, if_false, List.length_append, List.length_cons, List.length_nil, Nat.zero_add, Nat.add_zero, cast_succ, argE_zero, argE_succ, E7], by simp only [upd_app, updD_some, updD_none, ↓reduceIte, Nat.reduceEqDiff, if_true, if_false, List.length_append, List.length_cons, List.length_nil, Nat.zero_add, Nat.add_zero, cast_succ, argE_zero, argE_succ, E8], by simp only [upd_app, updD_some, updD_none, ↓reduceIte, Nat.reduceEqDiff, if_true, if_false, List.length_append, List.length_cons, List.length_nil, Nat.zero_add, Nat.add_zero, cast_succ, argE_zero, argE_succ, E9], by simp only [upd_app, updD_some, updD_none, ↓reduceIte, Nat.reduceEqDiff, if_true, if_false, List.length_append, List.length_cons, List.length_nil, Nat.zero_add, Nat.add_zero, cast_succ, argE_zero, argE_succ, E10], ?_, rfl, by rw [set_ne (by omega)]; exact j0, by rw [set_ne (by omega)]; exact j2, by rw [set_ne (by omega)]; exact j3, v2, set_eq j1, m1.set j1 (by intro s e; cases e), m2⟩
    simp only [hJd]
    simp only [upd_app, updD_some, updD_none, ↓reduceIte, Nat.reduceEqDiff, if_true, if_false, List.length_append, List.length_cons, List.length_nil, Nat.zero_add, Nat.add_zero, cast_succ, argE_zero, argE_succ]
end Go.Proofs.Ytjlgpfolnhilfaa
