/- THE WALK OF Swap. No condition but those stated. -/
import Derived.Test.YtjlgpfolnhilfaaS8
set_option linter.unusedSimpArgs false
set_option linter.unusedVariables false
set_option linter.unusedSectionVars false
namespace Go.Proofs.Ytjlgpfolnhilfaa
open Go Go.Am Go.Slots
set_option maxHeartbeats 2000000
set_option maxRecDepth 10000
/-- The pan's end of a function that catches. -/
theorem swap_pan {E : Env} {H : Heap} {e : Int} {y z : AV} (E6 : E 6 = .ptr 1 0) (E7 : E 7 = .ptr 2 0) (h1 : H[1]? = some (.cells [y])) (h2 : H[2]? = some (.cells [z])) :
    Am.Ends tab [.cell 6 1 false, .cell 7 1 false] (fun o H => purify (some (o, H)) = some (.plain (resT ([], e)))) (.panic [(.iface 25 (.int .i64 e), false)]) E [.call 48 [.ptr 2 0, .fn 73 [.ptr 1 0]]] H := by
  have c1 := clearSwap 1 y H h1
  have h3 : (H.set 1 (.cells [.sl 0 0 [] .z]))[2]? = some (.cells [z]) := by rw [set_ne (by omega)]; exact h2
  rw [ends_left_pan (caught_pan 2 _ _ H _ e z _ c1 h3)]
  have h4 : ((H.set 1 (.cells [.sl 0 0 [] .z])).set 2 (.cells [.int .i64 e]))[1]? = some (.cells [.sl 0 0 [] .z]) := by rw [set_ne (by omega)]; exact set_eq h1
  have h5 : ((H.set 1 (.cells [.sl 0 0 [] .z])).set 2 (.cells [.int .i64 e]))[2]? = some (.cells [.int .i64 e]) := set_eq h3
  simp (disch := omega) only [wk1, wk2, wk3, wk4, wk5, wk6, avalE, aactE, evPE, boundE, asNat, Nat.zero_mul, Int.tdiv_eq_ediv_of_nonneg, Int.tmod_eq_emod_of_nonneg, List.length_append, Nat.mul_one, bv_seql cellsEq_ii, bv_sneqd cellsEq_ii, Bool.not_false, Bool.not_true, decide_eq_true_eq, Bool.not_eq_true, eq_self, ne_eq, and_true, true_and, and_self, not_true_eq_false, not_false_eq_true, if_true, if_false, decide_true, decide_false, Int.toNat_natCast, Int.natCast_nonneg, List.drop_zero, List.take_zero, List.take_succ_cons, List.drop_succ_cons, readC, allOne, Bool.and_self, Bool.and_true, Bool.true_and, fillL, beq_self_eq_true, Nat.one_mul, List.drop_nil, resE, tupled, List.map_nil, List.map_cons, Option.map_some, ↓reduceIte, Nat.reduceEqDiff, Int.reduceEq, Int.reduceLT, Int.reduceLE, Nat.reduceAdd, Nat.reduceMul, Nat.reduceLT, Nat.reduceLeDiff, reduceCtorEq, List.length_nil, List.length_cons, Nat.add_zero, Nat.sub_zero, List.nil_append, List.cons_append, List.getElem?_cons_zero, List.getElem?_cons_succ, List.set_cons_zero, List.set_cons_succ, E6, E7, h4, h5, purify, unownT, unown, AV.hf, hfL, Tk.hf, Bool.and_self, resT_nil]
theorem slotsswap_no (left : Int) (n : Nat) (cs : List AV) (tk : Tk) (p : Int × Int) (H : Heap) (hn : (n : Int) ≤ 9223372036854775807) (hc : hfL cs = true) (hr : ¬ (right left n ∧ p.2 ≠ 0 ∧ p.2 ≠ left)) :
    pcx (cbL tab) 34 [.int .u64 left, .sl 1 n cs tk, .agg (pairA p)] H = some (.plain (resT ([], 2))) := by
  obtain ⟨u1, e1, f1⟩ := lend_sl 1 n cs tk
  have ep : lend (.agg (pairA p)) = .agg (pairA p) := rfl
  refine pcx_N rfl (pc_wp (fi := c34) rfl ?_ (by simp [c34]) (by decide) ?_)
  · simp only [pcOn, List.map_cons, List.map_nil, hfL, hf_lend_sl, hf_lend_int, hf_lend_bool, hf_lend_str, hfL_append, Bool.and_self, Bool.and_true, Bool.true_and, c34, hc, ep]; rfl
  unfold c34
  rw [List.map_cons, List.map_cons, List.map_cons, List.map_nil, e1, lend_int, ep]
  have r1 := fun H => comes_no n cs u1 left p H hn hc hr
  simp only [pairA, rowV] at r1
  simp (disch := omega) only [wk1, wk2, wk3, wk4, wk5, wk6, avalE, aactE, evPE, boundE, asNat, Nat.zero_mul, Int.tdiv_eq_ediv_of_nonneg, Int.tmod_eq_emod_of_nonneg, List.length_append, Nat.mul_one, bv_seql cellsEq_ii, bv_sneqd cellsEq_ii, Bool.not_false, Bool.not_true, decide_eq_true_eq, Bool.not_eq_true, eq_self, ne_eq, and_true, true_and, and_self, not_true_eq_false, not_false_eq_true, if_true, if_false, decide_true, decide_false, Int.toNat_natCast, Int.natCast_nonneg, List.drop_zero, List.take_zero, List.take_succ_cons, List.drop_succ_cons, readC, allOne, Bool.and_self, Bool.and_true, Bool.true_and, fillL, beq_self_eq_true, Nat.one_mul, List.drop_nil, resE, tupled, List.map_nil, List.map_cons, Option.map_some, ↓reduceIte, Nat.reduceEqDiff, Int.reduceEq, Int.reduceLT, Int.reduceLE, Nat.reduceAdd, Nat.reduceMul, Nat.reduceLT, Nat.reduceLeDiff, reduceCtorEq, List.length_nil, List.length_cons, Nat.add_zero, Nat.sub_zero, List.nil_append, List.cons_append, List.getElem?_cons_zero, List.getElem?_cons_succ, List.set_cons_zero, List.set_cons_succ, pairA, r1, List.append_nil]
  refine swap_pan (e := 2) (y := .sl 0 0 [] .z) (z := .int .i64 0) ?_ ?_ ?_ ?_ <;> first | rfl | simp only [upd_app, updD_some, updD_none, ↓reduceIte, Nat.reduceEqDiff, if_true, if_false, List.length_append, List.length_cons, List.length_nil, Nat.zero_add, Nat.add_zero, cast_succ, argE_zero, argE_succ]
theorem slotsswap_yes (left : Int) (ps : List (Int × Int)) (rest : List AV) (tk : Tk) (p : Int × Int) (H : Heap) (hc : hfL rest = true) (hr : right left (2 * ps.length)) (hp : p.2 ≠ 0) (hp2 : p.2 ≠ left) :
    pcx (cbL tab) 34 [.int .u64 left, row ps rest tk, .agg (pairA p)] H = some (.plain (resT (swapM left ps p))) := by
  obtain ⟨u1, e1, f1⟩ := lend_sl 1 (2 * ps.length) (encs pairA ps ++ rest) tk
  have ep : lend (.agg (pairA p)) = .agg (pairA p) := rfl
  have hn := hr.2.2.2
  have hlen := rdL_le left ps
  refine pcx_N rfl (pc_wp (fi := c34) rfl ?_ (by simp [c34]) (by decide) ?_)
  · simp only [pcOn, List.map_cons, List.map_nil, hfL, hf_lend_sl, hf_lend_int, hf_lend_bool, hf_lend_str, hfL_append, Bool.and_self, Bool.and_true, Bool.true_and, c34, row, hc, hf_pairA, ep]; rfl
  unfold c34
  rw [List.map_cons, List.map_cons, List.map_cons, List.map_nil, row, e1, lend_int, ep]
  have r1 := fun H => comes_yes ps rest u1 left p H hc hr hp hp2
  simp only [pairA, rowV] at r1
  by_cases h1 : okL left ps
  case neg =>
    have hm : swapM left ps p = ([], 190) := by simp [swapM, pointerE, h1]
    rw [hm]
    simp only [comesR, h1, if_false] at r1
    simp (disch := omega) only [wk1, wk2, wk3, wk4, wk5, wk6, avalE, aactE, evPE, boundE, asNat, Nat.zero_mul, Int.tdiv_eq_ediv_of_nonneg, Int.tmod_eq_emod_of_nonneg, List.length_append, Nat.mul_one, bv_seql cellsEq_ii, bv_sneqd cellsEq_ii, Bool.not_false, Bool.not_true, decide_eq_true_eq, Bool.not_eq_true, eq_self, ne_eq, and_true, true_and, and_self, not_true_eq_false, not_false_eq_true, if_true, if_false, decide_true, decide_false, Int.toNat_natCast, Int.natCast_nonneg, List.drop_zero, List.take_zero, List.take_succ_cons, List.drop_succ_cons, readC, allOne, Bool.and_self, Bool.and_true, Bool.true_and, fillL, beq_self_eq_true, Nat.one_mul, List.drop_nil, resE, tupled, List.map_nil, List.map_cons, Option.map_some, ↓reduceIte, Nat.reduceEqDiff, Int.reduceEq, Int.reduceLT, Int.reduceLE, Nat.reduceAdd, Nat.reduceMul, Nat.reduceLT, Nat.reduceLeDiff, reduceCtorEq, List.length_nil, List.length_cons, Nat.add_zero, Nat.sub_zero, List.nil_append, List.cons_append, List.getElem?_cons_zero, List.getElem?_cons_succ, List.set_cons_zero, List.set_cons_succ, pairA, r1, List.append_nil]
    refine swap_pan (e := 190) (y := .sl 0 0 [] .z) (z := .int .i64 0) ?_ ?_ ?_ ?_ <;> first | rfl | simp only [upd_app, updD_some, updD_none, ↓reduceIte, Nat.reduceEqDiff, if_true, if_false, List.length_append, List.length_cons, List.length_nil, Nat.zero_add, Nat.add_zero, cast_succ, argE_zero, argE_succ]
  by_cases h2 : hasL (rdL left ps) p.2
  case pos =>
    have hm : swapM left ps p = ([], 2) := by simp [swapM, pointerE, h1, h2]
    rw [hm]
    simp only [comesR, h1, h2, if_true] at r1
    simp (disch := omega) only [wk1, wk2, wk3, wk4, wk5, wk6, avalE, aactE, evPE, boundE, asNat, Nat.zero_mul, Int.tdiv_eq_ediv_of_nonneg, Int.tmod_eq_emod_of_nonneg, List.length_append, Nat.mul_one, bv_seql cellsEq_ii, bv_sneqd cellsEq_ii, Bool.not_false, Bool.not_true, decide_eq_true_eq, Bool.not_eq_true, eq_self, ne_eq, and_true, true_and, and_self, not_true_eq_false, not_false_eq_true, if_true, if_false, decide_true, decide_false, Int.toNat_natCast, Int.natCast_nonneg, List.drop_zero, List.take_zero, List.take_succ_cons, List.drop_succ_cons, readC, allOne, Bool.and_self, Bool.and_true, Bool.true_and, fillL, beq_self_eq_true, Nat.one_mul, List.drop_nil, resE, tupled, List.map_nil, List.map_cons, Option.map_some, ↓reduceIte, Nat.reduceEqDiff, Int.reduceEq, Int.reduceLT, Int.reduceLE, Nat.reduceAdd, Nat.reduceMul, Nat.reduceLT, Nat.reduceLeDiff, reduceCtorEq, List.length_nil, List.length_cons, Nat.add_zero, Nat.sub_zero, List.nil_append, List.cons_append, List.getElem?_cons_zero, List.getElem?_cons_succ, List.set_cons_zero, List.set_cons_succ, pairA, r1, List.append_nil]
    refine swap_pan (e := 2) (y := .sl 0 0 [] .z) (z := .int .i64 0) ?_ ?_ ?_ ?_ <;> first | rfl | simp only [upd_app, updD_some, updD_none, ↓reduceIte, Nat.reduceEqDiff, if_true, if_false, List.length_append, List.length_cons, List.length_nil, Nat.zero_add, Nat.add_zero, cast_succ, argE_zero, argE_succ]
  simp only [comesR, h1, h2, if_true, if_false] at r1
  by_cases h3 : keyAtI (rdL left ps) (findL' p.1 (rdL left ps)) p.1
  case neg =>
    have hm : swapM left ps p = ([], 5) := by simp [swapM, pointerE, h1, h2, h3]
    rw [hm]
    simp (disch := omega) only [wk1, wk2, wk3, wk4, wk5, wk6, avalE, aactE, evPE, boundE, asNat, Nat.zero_mul, Int.tdiv_eq_ediv_of_nonneg, Int.tmod_eq_emod_of_nonneg, List.length_append, Nat.mul_one, bv_seql cellsEq_ii, bv_sneqd cellsEq_ii, Bool.not_false, Bool.not_true, decide_eq_true_eq, Bool.not_eq_true, eq_self, ne_eq, and_true, true_and, and_self, not_true_eq_false, not_false_eq_true, if_true, if_false, decide_true, decide_false, Int.toNat_natCast, Int.natCast_nonneg, List.drop_zero, List.take_zero, List.take_succ_cons, List.drop_succ_cons, readC, allOne, Bool.and_self, Bool.and_true, Bool.true_and, fillL, beq_self_eq_true, Nat.one_mul, List.drop_nil, resE, tupled, List.map_nil, List.map_cons, Option.map_some, ↓reduceIte, Nat.reduceEqDiff, Int.reduceEq, Int.reduceLT, Int.reduceLE, Nat.reduceAdd, Nat.reduceMul, Nat.reduceLT, Nat.reduceLeDiff, reduceCtorEq, List.length_nil, List.length_cons, Nat.add_zero, Nat.sub_zero, List.nil_append, List.cons_append, List.getElem?_cons_zero, List.getElem?_cons_succ, List.set_cons_zero, List.set_cons_succ, pairA, r1, h3, must_f, List.append_nil]
    refine swap_pan (e := 5) (y := .sl 0 0 [] .z) (z := .int .i64 0) ?_ ?_ ?_ ?_ <;> first | rfl | simp only [upd_app, updD_some, updD_none, ↓reduceIte, Nat.reduceEqDiff, if_true, if_false, List.length_append, List.length_cons, List.length_nil, Nat.zero_add, Nat.add_zero, cast_succ, argE_zero, argE_succ]
  have hfl := findL_le p.1 (rdL left ps)
  have hm : swapM left ps p = ([(2 * ((findL' p.1 (rdL left ps) : Nat) : Int) + 1, p.2)], 0) := by simp [swapM, pointerE, h1, h2, h3]
  rw [hm]
  have pa := fun H => ptrAt_px (findL' p.1 (rdL left ps)) H (by omega)
  simp (disch := omega) only [wk1, wk2, wk3, wk4, wk5, wk6, avalE, aactE, evPE, boundE, asNat, Nat.zero_mul, Int.tdiv_eq_ediv_of_nonneg, Int.tmod_eq_emod_of_nonneg, List.length_append, Nat.mul_one, bv_seql cellsEq_ii, bv_sneqd cellsEq_ii, Bool.not_false, Bool.not_true, decide_eq_true_eq, Bool.not_eq_true, eq_self, ne_eq, and_true, true_and, and_self, not_true_eq_false, not_false_eq_true, if_true, if_false, decide_true, decide_false, Int.toNat_natCast, Int.natCast_nonneg, List.drop_zero, List.take_zero, List.take_succ_cons, List.drop_succ_cons, readC, allOne, Bool.and_self, Bool.and_true, Bool.true_and, fillL, beq_self_eq_true, Nat.one_mul, List.drop_nil, resE, tupled, List.map_nil, List.map_cons, Option.map_some, ↓reduceIte, Nat.reduceEqDiff, Int.reduceEq, Int.reduceLT, Int.reduceLE, Nat.reduceAdd, Nat.reduceMul, Nat.reduceLT, Nat.reduceLeDiff, reduceCtorEq, List.length_nil, List.length_cons, Nat.add_zero, Nat.sub_zero, List.nil_append, List.cons_append, List.getElem?_cons_zero, List.getElem?_cons_succ, List.set_cons_zero, List.set_cons_succ, pairA, r1, h3, must_t, pa, List.append_nil, List.append_nil]
  refine put_run (ws := [(2 * ((findL' p.1 (rdL left ps) : Nat) : Int) + 1, p.2)]) (l := []) (by simp) (by simp) (.inl ⟨.inl rfl, rfl, rfl⟩) (by intro a b c e; cases e) rfl (by simp; omega) (fun v' H' k1 k2 k3 k4 => ?_)
  have g1 := k3 1 _ rfl (by simp [tokOf])
  have g2 := k3 2 _ rfl (by simp [tokOf])
  have vone : v'.one = true := by rcases k1 with ⟨rfl | rfl, _⟩ | ⟨_, g, rfl, _⟩ <;> rfl
  have vflat : v'.flat = [v'] := by rcases k1 with ⟨rfl | rfl, _⟩ | ⟨_, g, rfl, _⟩ <;> rfl
  have g3 : (H'.set 1 (.cells [v']))[2]? = some (.cells [.int .i64 0]) := by rw [set_ne (by omega)]; exact g2
  have g4 : ((H'.set 1 (.cells [v'])).set 2 (.cells [.int .i64 0]))[1]? = some (.cells [v']) := by rw [set_ne (by omega)]; exact set_eq g1
  have g5 : ((H'.set 1 (.cells [v'])).set 2 (.cells [.int .i64 0]))[2]? = some (.cells [.int .i64 0]) := set_eq g3
  simp (disch := omega) only [wk1, wk2, wk3, wk4, wk5, wk6, avalE, aactE, evPE, boundE, asNat, Nat.zero_mul, Int.tdiv_eq_ediv_of_nonneg, Int.tmod_eq_emod_of_nonneg, List.length_append, Nat.mul_one, bv_seql cellsEq_ii, bv_sneqd cellsEq_ii, Bool.not_false, Bool.not_true, decide_eq_true_eq, Bool.not_eq_true, eq_self, ne_eq, and_true, true_and, and_self, not_true_eq_false, not_false_eq_true, if_true, if_false, decide_true, decide_false, Int.toNat_natCast, Int.natCast_nonneg, List.drop_zero, List.take_zero, List.take_succ_cons, List.drop_succ_cons, readC, allOne, Bool.and_self, Bool.and_true, Bool.true_and, fillL, beq_self_eq_true, Nat.one_mul, List.drop_nil, resE, tupled, List.map_nil, List.map_cons, Option.map_some, ↓reduceIte, Nat.reduceEqDiff, Int.reduceEq, Int.reduceLT, Int.reduceLE, Nat.reduceAdd, Nat.reduceMul, Nat.reduceLT, Nat.reduceLeDiff, reduceCtorEq, List.length_nil, List.length_cons, Nat.add_zero, Nat.sub_zero, List.nil_append, List.cons_append, List.getElem?_cons_zero, List.getElem?_cons_succ, List.set_cons_zero, List.set_cons_succ, g1, g3, vone, vflat, List.append_nil]
  rw [ends_left_ret (caught_ret _ _ _ _)]
  simp (disch := omega) only [wk1, wk2, wk3, wk4, wk5, wk6, avalE, aactE, evPE, boundE, asNat, Nat.zero_mul, Int.tdiv_eq_ediv_of_nonneg, Int.tmod_eq_emod_of_nonneg, List.length_append, Nat.mul_one, bv_seql cellsEq_ii, bv_sneqd cellsEq_ii, Bool.not_false, Bool.not_true, decide_eq_true_eq, Bool.not_eq_true, eq_self, ne_eq, and_true, true_and, and_self, not_true_eq_false, not_false_eq_true, if_true, if_false, decide_true, decide_false, Int.toNat_natCast, Int.natCast_nonneg, List.drop_zero, List.take_zero, List.take_succ_cons, List.drop_succ_cons, readC, allOne, Bool.and_self, Bool.and_true, Bool.true_and, fillL, beq_self_eq_true, Nat.one_mul, List.drop_nil, resE, tupled, List.map_nil, List.map_cons, Option.map_some, ↓reduceIte, Nat.reduceEqDiff, Int.reduceEq, Int.reduceLT, Int.reduceLE, Nat.reduceAdd, Nat.reduceMul, Nat.reduceLT, Nat.reduceLeDiff, reduceCtorEq, List.length_nil, List.length_cons, Nat.add_zero, Nat.sub_zero, List.nil_append, List.cons_append, List.getElem?_cons_zero, List.getElem?_cons_succ, List.set_cons_zero, List.set_cons_succ, g4, g5]
  have w1 := own_unown k1 k2
  have u1 : unown (.int .i64 0) = .int .i64 0 := rfl
  simp only [purify, unownT, List.map_cons, List.map_nil, w1, u1, AV.hf, hfL, slvR_hf (f := putA) (fun _ => rfl), Bool.and_self, if_true, resT, List.nil_append]
end Go.Proofs.Ytjlgpfolnhilfaa
