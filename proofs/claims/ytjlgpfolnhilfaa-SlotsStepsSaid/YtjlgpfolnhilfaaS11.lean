/- THE WALKS OF shift AND Take. No condition but those stated. -/
import Derived.Test.YtjlgpfolnhilfaaS10
set_option linter.unusedSimpArgs false
set_option linter.unusedVariables false
set_option linter.unusedSectionVars false
namespace Go.Proofs.Ytjlgpfolnhilfaa
open Go Go.Am Go.Slots
set_option maxHeartbeats 4000000
set_option maxRecDepth 10000
theorem scal_putA (l : List (Int × Int)) : (encs putA l).all (·.scal) = true := by
  induction l with
  | nil => rfl
  | cons x r ih => rw [encs_cons, List.all_append, ih]; rfl
theorem slotsshift_px (ps : List (Int × Int)) (rest : List AV) (tk : Tk) (left : Int) (d m : Nat) (H : Heap) (hn : ps.length ≤ 100) (hc : hfL rest = true) (ht : tk.hf = true) (hd : d < m) (hm : m ≤ ps.length) :
    pcx (cbL tab) 63 [rowV (2 * ps.length) (encs pairA ps ++ rest) tk left, .int .i64 (d : Nat), .int .i64 (m : Nat)] H = some (prRow 2 putA (shiftM ps d m)) := by
  have hne : (shiftM ps d m).isEmpty = false := by simp [shiftM]
  have hpr : prRow 2 putA (shiftM ps d m) = .fresh 2 (shiftM ps d m).length (encs putA (shiftM ps d m)) := by simp [prRow, hne]
  rw [hpr]
  obtain ⟨u1, e1, f1⟩ := lend_rowV (2 * ps.length) (encs pairA ps ++ rest) tk left
  refine pcx_Lf rfl (by rw [List.map_cons, List.map_cons, List.map_cons, List.map_nil, lendK_rowV, lendK_int, lendK_int]) (pc_wp (fi := c63) rfl ?_ (by simp [c63]) (by decide) ?_) (scal_putA _)
  · simp only [pcOn, List.map_cons, List.map_nil, hfL, hf_lend_sl, hf_lend_int, hf_lend_bool, hf_lend_str, hfL_append, Bool.and_self, Bool.and_true, Bool.true_and, c63, hf_rowV, hf_lend_rowV, hc, ht, hf_pairA, AV.hf]
  unfold c63
  rw [List.map_cons, List.map_cons, List.map_cons, List.map_nil, e1, rowV, lend_int, lend_int]
  simp (disch := omega) only [wk1, wk2, wk3, wk4, wk5, wk6, avalE, aactE, evPE, boundE, asNat, Nat.zero_mul, Int.tdiv_eq_ediv_of_nonneg, Int.tmod_eq_emod_of_nonneg, List.length_append, Nat.mul_one, bv_seql cellsEq_ii, bv_sneqd cellsEq_ii, Bool.not_false, Bool.not_true, decide_eq_true_eq, Bool.not_eq_true, eq_self, ne_eq, and_true, true_and, and_self, not_true_eq_false, not_false_eq_true, if_true, if_false, decide_true, decide_false, Int.toNat_natCast, Int.natCast_nonneg, List.drop_zero, List.take_zero, List.take_succ_cons, List.drop_succ_cons, readC, allOne, Bool.and_self, Bool.and_true, Bool.true_and, fillL, beq_self_eq_true, Nat.one_mul, List.drop_nil, resE, tupled, List.map_nil, List.map_cons, Option.map_some, ↓reduceIte, Nat.reduceEqDiff, Int.reduceEq, Int.reduceLT, Int.reduceLE, Nat.reduceAdd, Nat.reduceMul, Nat.reduceLT, Nat.reduceLeDiff, reduceCtorEq, List.length_nil, List.length_cons, Nat.add_zero, Nat.sub_zero, List.nil_append, List.cons_append, List.getElem?_cons_zero, List.getElem?_cons_succ, List.set_cons_zero, List.set_cons_succ]
  refine loop_ind (fun (x : Nat × List (Int × Int)) E df H => d ≤ x.1 ∧ x.1 < m ∧ shF d (m - 1 - d) (ps.drop (d + 1)) = x.2 ++ shF x.1 (m - 1 - x.1) (ps.drop (x.1 + 1)) ∧ x.2.length ≤ 2 * x.1 ∧ E 2 = .int .i64 (m : Nat) ∧ E 3 = .ptr 0 0 ∧ E 7 = .int .i64 (x.1 : Nat) ∧ df = [] ∧
      H[0]? = some (.cells [row ps rest u1, .int .u64 left]) ∧ Own H 2 (E 6) x.2.length (encs putA x.2) ∧ (∀ a b c, E 6 ≠ .sl a b c .e)) (fun x => m - x.1) (d, []) (by decide) (.inl rfl) ⟨Nat.le_refl _, hd, rfl, by simp, rfl, rfl, rfl, rfl, rfl, .inl ⟨.inl rfl, rfl, rfl⟩, (by intro a b c e; cases e)⟩ ?_
  intro ⟨j, out⟩ E df H ih hP
  obtain ⟨a0, a1, a2, a3, E2, E3, E7, hdf, hH, o1, z1⟩ := hP
  dsimp only at a0 a1 a2 a3 E7 o1
  subst hdf
  rw [row] at hH
  by_cases hj : j + 1 < m
  · have h1 : j < ps.length := by omega
    have h2 : j + 1 < ps.length := by omega
    have hps : ps = ps.take (j + 1) ++ ps[j + 1] :: ps.drop (j + 2) := by
      rw [← List.drop_eq_getElem_cons h2, List.take_append_drop]
    have hl : (ps.take (j + 1)).length = j + 1 := by rw [List.length_take]; omega
    have p1 := fun H => ptr_px (ps.take (j + 1)) ps[j + 1] (ps.drop (j + 2)) rest u1 H (by rw [← hps]; omega) hc f1
    have p2 := fun H => key_px (ps.take (j + 1)) ps[j + 1] (ps.drop (j + 2)) rest u1 H (by rw [← hps]; omega) hc f1
    rw [← hps, hl] at p1 p2
    simp only [row, cast_succ] at p1 p2
    have pa := fun H => ptrAt_px j H (by omega)
    have ka := fun H => keyAt_px j H (by omega)
    have hc2 : m - 1 - j = (m - 1 - (j + 1)) + 1 := by omega
    rw [hc2, List.drop_eq_getElem_cons h2, shF] at a2
    simp (disch := omega) only [wk1, wk2, wk3, wk4, wk5, wk6, avalE, aactE, evPE, boundE, asNat, Nat.zero_mul, Int.tdiv_eq_ediv_of_nonneg, Int.tmod_eq_emod_of_nonneg, List.length_append, Nat.mul_one, bv_seql cellsEq_ii, bv_sneqd cellsEq_ii, Bool.not_false, Bool.not_true, decide_eq_true_eq, Bool.not_eq_true, eq_self, ne_eq, and_true, true_and, and_self, not_true_eq_false, not_false_eq_true, if_true, if_false, decide_true, decide_false, Int.toNat_natCast, Int.natCast_nonneg, List.drop_zero, List.take_zero, List.take_succ_cons, List.drop_succ_cons, readC, allOne, Bool.and_self, Bool.and_true, Bool.true_and, fillL, beq_self_eq_true, Nat.one_mul, List.drop_nil, resE, tupled, List.map_nil, List.map_cons, Option.map_some, ↓reduceIte, Nat.reduceEqDiff, Int.reduceEq, Int.reduceLT, Int.reduceLE, Nat.reduceAdd, Nat.reduceMul, Nat.reduceLT, Nat.reduceLeDiff, reduceCtorEq, List.length_nil, List.length_cons, Nat.add_zero, Nat.sub_zero, List.nil_append, List.cons_append, List.getElem?_cons_zero, List.getElem?_cons_succ, List.set_cons_zero, List.set_cons_succ, E2, E3, E7, hH, p1, p2, pa, ka, List.append_nil]
    refine put_run (ws := [(2 * (j : Int), ps[j + 1].1), (2 * (j : Int) + 1, ps[j + 1].2)]) (l := out) (by simp; omega) (by simp) o1 z1 rfl (by simp; omega) (fun v2 H2 m1 m2 m3 m4 => ?_)
    have j0 := m3.cells o1 rfl hH (by intro s e; cases e)
    simp (disch := omega) only [wk1, wk2, wk3, wk4, wk5, wk6, avalE, aactE, evPE, boundE, asNat, Nat.zero_mul, Int.tdiv_eq_ediv_of_nonneg, Int.tmod_eq_emod_of_nonneg, List.length_append, Nat.mul_one, bv_seql cellsEq_ii, bv_sneqd cellsEq_ii, Bool.not_false, Bool.not_true, decide_eq_true_eq, Bool.not_eq_true, eq_self, ne_eq, and_true, true_and, and_self, not_true_eq_false, not_false_eq_true, if_true, if_false, decide_true, decide_false, Int.toNat_natCast, Int.natCast_nonneg, List.drop_zero, List.take_zero, List.take_succ_cons, List.drop_succ_cons, readC, allOne, Bool.and_self, Bool.and_true, Bool.true_and, fillL, beq_self_eq_true, Nat.one_mul, List.drop_nil, resE, tupled, List.map_nil, List.map_cons, Option.map_some, ↓reduceIte, Nat.reduceEqDiff, Int.reduceEq, Int.reduceLT, Int.reduceLE, Nat.reduceAdd, Nat.reduceMul, Nat.reduceLT, Nat.reduceLeDiff, reduceCtorEq, List.length_nil, List.length_cons, Nat.add_zero, Nat.sub_zero, List.nil_append, List.cons_append, List.getElem?_cons_zero, List.getElem?_cons_succ, List.set_cons_zero, List.set_cons_succ, E2, E3, E7]
    refine ih (j + 1, out ++ [(2 * (j : Int), ps[j + 1].1), (2 * (j : Int) + 1, ps[j + 1].2)]) _ _ _ (by simp only; omega) ?_
    exact ⟨by simp only; omega, hj, by simp [a2], by simp; omega, by simp only [upd_app, updD_some, updD_none, ↓reduceIte, Nat.reduceEqDiff, if_true, if_false, List.length_append, List.length_cons, List.length_nil, Nat.zero_add, Nat.add_zero, cast_succ, argE_zero, argE_succ, E2], by simp only [upd_app, updD_some, updD_none, ↓reduceIte, Nat.reduceEqDiff, if_true, if_false, List.length_append, List.length_cons, List.length_nil, Nat.zero_add, Nat.add_zero, cast_succ, argE_zero, argE_succ, E3], by simp only [upd_app, updD_some, updD_none, ↓reduceIte, Nat.reduceEqDiff, if_true, if_false, List.length_append, List.length_cons, List.length_nil, Nat.zero_add, Nat.add_zero, cast_succ, argE_zero, argE_succ], rfl, by rw [row]; exact j0, by simp only [upd_app, updD_some, updD_none, ↓reduceIte, Nat.reduceEqDiff, if_true, if_false, List.length_append, List.length_cons, List.length_nil, Nat.zero_add, Nat.add_zero, cast_succ, argE_zero, argE_succ]; simpa using m1, by simp only [upd_app, updD_some, updD_none, ↓reduceIte, Nat.reduceEqDiff, if_true, if_false, List.length_append, List.length_cons, List.length_nil, Nat.zero_add, Nat.add_zero, cast_succ, argE_zero, argE_succ]; exact m2⟩
  · have hjm : j = m - 1 := by omega
    have hc0 : m - 1 - j = 0 := by omega
    rw [hc0, shF, List.append_nil] at a2
    have pa := fun H => ptrAt_px j H (by omega)
    have ej : (m : Int) - 1 = (j : Int) := by omega
    have e3 : 2 * (j : Int) + 1 = 2 * (m : Int) - 1 := by omega
    rw [e3] at pa
    simp (disch := omega) only [wk1, wk2, wk3, wk4, wk5, wk6, avalE, aactE, evPE, boundE, asNat, Nat.zero_mul, Int.tdiv_eq_ediv_of_nonneg, Int.tmod_eq_emod_of_nonneg, List.length_append, Nat.mul_one, bv_seql cellsEq_ii, bv_sneqd cellsEq_ii, Bool.not_false, Bool.not_true, decide_eq_true_eq, Bool.not_eq_true, eq_self, ne_eq, and_true, true_and, and_self, not_true_eq_false, not_false_eq_true, if_true, if_false, decide_true, decide_false, Int.toNat_natCast, Int.natCast_nonneg, List.drop_zero, List.take_zero, List.take_succ_cons, List.drop_succ_cons, readC, allOne, Bool.and_self, Bool.and_true, Bool.true_and, fillL, beq_self_eq_true, Nat.one_mul, List.drop_nil, resE, tupled, List.map_nil, List.map_cons, Option.map_some, ↓reduceIte, Nat.reduceEqDiff, Int.reduceEq, Int.reduceLT, Int.reduceLE, Nat.reduceAdd, Nat.reduceMul, Nat.reduceLT, Nat.reduceLeDiff, reduceCtorEq, List.length_nil, List.length_cons, Nat.add_zero, Nat.sub_zero, List.nil_append, List.cons_append, List.getElem?_cons_zero, List.getElem?_cons_succ, List.set_cons_zero, List.set_cons_succ, E2, E3, E7, ej, pa, List.append_nil]
    refine put_run (ws := [(2 * (m : Int) - 1, 0)]) (l := out) (by simp; omega) (by simp) o1 z1 rfl (by simp; omega) (fun v2 H2 m1 m2 m3 m4 => ?_)
    simp (disch := omega) only [wk1, wk2, wk3, wk4, wk5, wk6, avalE, aactE, evPE, boundE, asNat, Nat.zero_mul, Int.tdiv_eq_ediv_of_nonneg, Int.tmod_eq_emod_of_nonneg, List.length_append, Nat.mul_one, bv_seql cellsEq_ii, bv_sneqd cellsEq_ii, Bool.not_false, Bool.not_true, decide_eq_true_eq, Bool.not_eq_true, eq_self, ne_eq, and_true, true_and, and_self, not_true_eq_false, not_false_eq_true, if_true, if_false, decide_true, decide_false, Int.toNat_natCast, Int.natCast_nonneg, List.drop_zero, List.take_zero, List.take_succ_cons, List.drop_succ_cons, readC, allOne, Bool.and_self, Bool.and_true, Bool.true_and, fillL, beq_self_eq_true, Nat.one_mul, List.drop_nil, resE, tupled, List.map_nil, List.map_cons, Option.map_some, ↓reduceIte, Nat.reduceEqDiff, Int.reduceEq, Int.reduceLT, Int.reduceLE, Nat.reduceAdd, Nat.reduceMul, Nat.reduceLT, Nat.reduceLeDiff, reduceCtorEq, List.length_nil, List.length_cons, Nat.add_zero, Nat.sub_zero, List.nil_append, List.cons_append, List.getElem?_cons_zero, List.getElem?_cons_succ, List.set_cons_zero, List.set_cons_succ]
    have := purify_row (f := putA) (l := out ++ [(2 * (m : Int) - 1, 0)]) hf_putA1 m1 (fun _ => m2)
    rw [this, ← hpr, shiftM, a2]
theorem take_pan {E : Env} {H : Heap} {e : Int} {y z : AV} (E6 : E 6 = .ptr 0 0) (E7 : E 7 = .ptr 1 0) (h1 : H[0]? = some (.cells [y])) (h2 : H[1]? = some (.cells [z])) :
    Am.Ends tab [.cell 6 1 false, .cell 7 1 false] (fun o H => purify (some (o, H)) = some (.plain (resT ([], e)))) (.panic [(.iface 25 (.int .i64 e), false)]) E [.call 48 [.ptr 1 0, .fn 60 [.ptr 0 0]]] H := by
  have c1 := clearTake 0 y H h1
  have h3 : (H.set 0 (.cells [.sl 0 0 [] .z]))[1]? = some (.cells [z]) := by rw [set_ne (by omega)]; exact h2
  rw [ends_left_pan (caught_pan 1 _ _ H _ e z _ c1 h3)]
  have h4 : ((H.set 0 (.cells [.sl 0 0 [] .z])).set 1 (.cells [.int .i64 e]))[0]? = some (.cells [.sl 0 0 [] .z]) := by rw [set_ne (by omega)]; exact set_eq h1
  have h5 : ((H.set 0 (.cells [.sl 0 0 [] .z])).set 1 (.cells [.int .i64 e]))[1]? = some (.cells [.int .i64 e]) := set_eq h3
  simp (disch := omega) only [wk1, wk2, wk3, wk4, wk5, wk6, avalE, aactE, evPE, boundE, asNat, Nat.zero_mul, Int.tdiv_eq_ediv_of_nonneg, Int.tmod_eq_emod_of_nonneg, List.length_append, Nat.mul_one, bv_seql cellsEq_ii, bv_sneqd cellsEq_ii, Bool.not_false, Bool.not_true, decide_eq_true_eq, Bool.not_eq_true, eq_self, ne_eq, and_true, true_and, and_self, not_true_eq_false, not_false_eq_true, if_true, if_false, decide_true, decide_false, Int.toNat_natCast, Int.natCast_nonneg, List.drop_zero, List.take_zero, List.take_succ_cons, List.drop_succ_cons, readC, allOne, Bool.and_self, Bool.and_true, Bool.true_and, fillL, beq_self_eq_true, Nat.one_mul, List.drop_nil, resE, tupled, List.map_nil, List.map_cons, Option.map_some, ↓reduceIte, Nat.reduceEqDiff, Int.reduceEq, Int.reduceLT, Int.reduceLE, Nat.reduceAdd, Nat.reduceMul, Nat.reduceLT, Nat.reduceLeDiff, reduceCtorEq, List.length_nil, List.length_cons, Nat.add_zero, Nat.sub_zero, List.nil_append, List.cons_append, List.getElem?_cons_zero, List.getElem?_cons_succ, List.set_cons_zero, List.set_cons_succ, E6, E7, h4, h5, purify, unownT, unown, AV.hf, hfL, Tk.hf, resT_nil]
theorem slotstake_no (left : Int) (n : Nat) (cs : List AV) (tk : Tk) (key : Int) (H : Heap) (hn : (n : Int) ≤ 9223372036854775807) (hc : hfL cs = true) (hr : ¬ right left n) :
    pcx (cbL tab) 25 [.int .u64 left, .sl 1 n cs tk, .int .u64 key] H = some (.plain (resT ([], 2))) := by
  obtain ⟨u1, e1, f1⟩ := lend_sl 1 n cs tk
  refine pcx_N rfl (pc_wp (fi := c25) rfl ?_ (by simp [c25]) (by decide) ?_)
  · simp only [pcOn, List.map_cons, List.map_nil, hfL, hf_lend_sl, hf_lend_int, hf_lend_bool, hf_lend_str, hfL_append, Bool.and_self, Bool.and_true, Bool.true_and, c25, hc]
  unfold c25
  rw [List.map_cons, List.map_cons, List.map_cons, List.map_nil, e1, lend_int, lend_int]
  have r1 := fun H => settled_no n cs u1 left H hn hc f1 hr
  simp only [rowV] at r1
  simp (disch := omega) only [wk1, wk2, wk3, wk4, wk5, wk6, avalE, aactE, evPE, boundE, asNat, Nat.zero_mul, Int.tdiv_eq_ediv_of_nonneg, Int.tmod_eq_emod_of_nonneg, List.length_append, Nat.mul_one, bv_seql cellsEq_ii, bv_sneqd cellsEq_ii, Bool.not_false, Bool.not_true, decide_eq_true_eq, Bool.not_eq_true, eq_self, ne_eq, and_true, true_and, and_self, not_true_eq_false, not_false_eq_true, if_true, if_false, decide_true, decide_false, Int.toNat_natCast, Int.natCast_nonneg, List.drop_zero, List.take_zero, List.take_succ_cons, List.drop_succ_cons, readC, allOne, Bool.and_self, Bool.and_true, Bool.true_and, fillL, beq_self_eq_true, Nat.one_mul, List.drop_nil, resE, tupled, List.map_nil, List.map_cons, Option.map_some, ↓reduceIte, Nat.reduceEqDiff, Int.reduceEq, Int.reduceLT, Int.reduceLE, Nat.reduceAdd, Nat.reduceMul, Nat.reduceLT, Nat.reduceLeDiff, reduceCtorEq, List.length_nil, List.length_cons, Nat.add_zero, Nat.sub_zero, List.nil_append, List.cons_append, List.getElem?_cons_zero, List.getElem?_cons_succ, List.set_cons_zero, List.set_cons_succ, r1, List.append_nil]
  refine take_pan (e := 2) (y := .sl 0 0 [] .z) (z := .int .i64 0) ?_ ?_ ?_ ?_ <;> first | rfl | simp only [upd_app, updD_some, updD_none, ↓reduceIte, Nat.reduceEqDiff, if_true, if_false, List.length_append, List.length_cons, List.length_nil, Nat.zero_add, Nat.add_zero, cast_succ, argE_zero, argE_succ]
theorem slotstake_yes (left : Int) (ps : List (Int × Int)) (rest : List AV) (tk : Tk) (key : Int) (H : Heap) (hc : hfL rest = true) (hr : right left (2 * ps.length)) :
    pcx (cbL tab) 25 [.int .u64 left, row ps rest tk, .int .u64 key] H = some (.plain (resT (takeM left ps key))) := by
  obtain ⟨u1, e1, f1⟩ := lend_sl 1 (2 * ps.length) (encs pairA ps ++ rest) tk
  have hn := hr.2.2.2
  have hlen := rdL_le left ps
  refine pcx_N rfl (pc_wp (fi := c25) rfl ?_ (by simp [c25]) (by decide) ?_)
  · simp only [pcOn, List.map_cons, List.map_nil, hfL, hf_lend_sl, hf_lend_int, hf_lend_bool, hf_lend_str, hfL_append, Bool.and_self, Bool.and_true, Bool.true_and, c25, row, hc, hf_pairA]
  unfold c25
  rw [List.map_cons, List.map_cons, List.map_cons, List.map_nil, row, e1, lend_int, lend_int]
  have r1 := fun H => settled_yes ps rest u1 left H hc f1 hr
  simp only [rowV] at r1
  by_cases h1 : okL left ps
  case neg =>
    have hm : takeM left ps key = ([], 190) := by rw [takeM, if_neg h1]
    rw [hm]
    simp only [h1, if_false] at r1
    simp (disch := omega) only [wk1, wk2, wk3, wk4, wk5, wk6, avalE, aactE, evPE, boundE, asNat, Nat.zero_mul, Int.tdiv_eq_ediv_of_nonneg, Int.tmod_eq_emod_of_nonneg, List.length_append, Nat.mul_one, bv_seql cellsEq_ii, bv_sneqd cellsEq_ii, Bool.not_false, Bool.not_true, decide_eq_true_eq, Bool.not_eq_true, eq_self, ne_eq, and_true, true_and, and_self, not_true_eq_false, not_false_eq_true, if_true, if_false, decide_true, decide_false, Int.toNat_natCast, Int.natCast_nonneg, List.drop_zero, List.take_zero, List.take_succ_cons, List.drop_succ_cons, readC, allOne, Bool.and_self, Bool.and_true, Bool.true_and, fillL, beq_self_eq_true, Nat.one_mul, List.drop_nil, resE, tupled, List.map_nil, List.map_cons, Option.map_some, ↓reduceIte, Nat.reduceEqDiff, Int.reduceEq, Int.reduceLT, Int.reduceLE, Nat.reduceAdd, Nat.reduceMul, Nat.reduceLT, Nat.reduceLeDiff, reduceCtorEq, List.length_nil, List.length_cons, Nat.add_zero, Nat.sub_zero, List.nil_append, List.cons_append, List.getElem?_cons_zero, List.getElem?_cons_succ, List.set_cons_zero, List.set_cons_succ, r1, List.append_nil]
    refine take_pan (e := 190) (y := .sl 0 0 [] .z) (z := .int .i64 0) ?_ ?_ ?_ ?_ <;> first | rfl | simp only [upd_app, updD_some, updD_none, ↓reduceIte, Nat.reduceEqDiff, if_true, if_false, List.length_append, List.length_cons, List.length_nil, Nat.zero_add, Nat.add_zero, cast_succ, argE_zero, argE_succ]
  simp only [h1, if_true] at r1
  simp (disch := omega) only [wk1, wk2, wk3, wk4, wk5, wk6, avalE, aactE, evPE, boundE, asNat, Nat.zero_mul, Int.tdiv_eq_ediv_of_nonneg, Int.tmod_eq_emod_of_nonneg, List.length_append, Nat.mul_one, bv_seql cellsEq_ii, bv_sneqd cellsEq_ii, Bool.not_false, Bool.not_true, decide_eq_true_eq, Bool.not_eq_true, eq_self, ne_eq, and_true, true_and, and_self, not_true_eq_false, not_false_eq_true, if_true, if_false, decide_true, decide_false, Int.toNat_natCast, Int.natCast_nonneg, List.drop_zero, List.take_zero, List.take_succ_cons, List.drop_succ_cons, readC, allOne, Bool.and_self, Bool.and_true, Bool.true_and, fillL, beq_self_eq_true, Nat.one_mul, List.drop_nil, resE, tupled, List.map_nil, List.map_cons, Option.map_some, ↓reduceIte, Nat.reduceEqDiff, Int.reduceEq, Int.reduceLT, Int.reduceLE, Nat.reduceAdd, Nat.reduceMul, Nat.reduceLT, Nat.reduceLeDiff, reduceCtorEq, List.length_nil, List.length_cons, Nat.add_zero, Nat.sub_zero, List.nil_append, List.cons_append, List.getElem?_cons_zero, List.getElem?_cons_succ, List.set_cons_zero, List.set_cons_succ, r1, List.append_nil]
  refine runE_row (fun s tk' H1 hz ho htk hup hle => ?_)
  have g0 := hup 0 _ rfl
  have g1 := hup 1 _ rfl
  have g2 := hup 2 _ rfl
  have pl := fun H => place_px (rdL left ps) s tk' key H (by omega) hz h1.1
  have hfl := findL_le key (rdL left ps)
  by_cases h2 : keyAtI (rdL left ps) (findL' key (rdL left ps)) key
  case neg =>
    have hm : takeM left ps key = ([], 5) := by rw [takeM, if_pos h1, if_neg h2]
    rw [hm]
    simp (disch := omega) only [wk1, wk2, wk3, wk4, wk5, wk6, avalE, aactE, evPE, boundE, asNat, Nat.zero_mul, Int.tdiv_eq_ediv_of_nonneg, Int.tmod_eq_emod_of_nonneg, List.length_append, Nat.mul_one, bv_seql cellsEq_ii, bv_sneqd cellsEq_ii, Bool.not_false, Bool.not_true, decide_eq_true_eq, Bool.not_eq_true, eq_self, ne_eq, and_true, true_and, and_self, not_true_eq_false, not_false_eq_true, if_true, if_false, decide_true, decide_false, Int.toNat_natCast, Int.natCast_nonneg, List.drop_zero, List.take_zero, List.take_succ_cons, List.drop_succ_cons, readC, allOne, Bool.and_self, Bool.and_true, Bool.true_and, fillL, beq_self_eq_true, Nat.one_mul, List.drop_nil, resE, tupled, List.map_nil, List.map_cons, Option.map_some, ↓reduceIte, Nat.reduceEqDiff, Int.reduceEq, Int.reduceLT, Int.reduceLE, Nat.reduceAdd, Nat.reduceMul, Nat.reduceLT, Nat.reduceLeDiff, reduceCtorEq, List.length_nil, List.length_cons, Nat.add_zero, Nat.sub_zero, List.nil_append, List.cons_append, List.getElem?_cons_zero, List.getElem?_cons_succ, List.set_cons_zero, List.set_cons_succ, pl, h2, must_f]
    refine take_pan (e := 5) (y := .sl 0 0 [] .z) (z := .int .i64 0) ?_ ?_ g0 g1 <;> simp only [upd_app, updD_some, updD_none, ↓reduceIte, Nat.reduceEqDiff, if_true, if_false, List.length_append, List.length_cons, List.length_nil, Nat.zero_add, Nat.add_zero, cast_succ, argE_zero, argE_succ]
  obtain ⟨x, hx, hxk⟩ := h2
  have hlt : findL' key (rdL left ps) < (rdL left ps).length := (List.getElem?_eq_some_iff.1 hx).1
  have h2 : keyAtI (rdL left ps) (findL' key (rdL left ps)) key := ⟨x, hx, hxk⟩
  rw [takeM, if_pos h1, if_pos h2]
  have ha := fun H => slotsahead_px left (ps.take (findL' key (rdL left ps))) (ps.drop (findL' key (rdL left ps))) rest u1 H (by rw [List.take_append_drop]; omega) hc f1
  have hl : (ps.take (findL' key (rdL left ps))).length = findL' key (rdL left ps) := by rw [List.length_take]; omega
  rw [List.take_append_drop, hl] at ha
  have sh := fun H => slotsshift_px ps rest u1 left (findL' key (rdL left ps)) (rdL left ps).length H (by omega) hc f1 hlt hlen
  have hsl := shF_len (findL' key (rdL left ps)) ((rdL left ps).length - 1 - findL' key (rdL left ps)) (ps.drop (findL' key (rdL left ps) + 1))
  have hsl2 : (shiftM ps (findL' key (rdL left ps)) (rdL left ps).length).length ≤ 100 := by rw [shiftM, List.length_append, List.length_singleton]; omega
  have hne : (shiftM ps (findL' key (rdL left ps)) (rdL left ps).length).isEmpty = false := by simp [shiftM]
  have pa := fun H => ptrAt_px (findL' key (rdL left ps)) H (by omega)
  simp only [rowV] at ha sh
  generalize shiftM ps (findL' key (rdL left ps)) (rdL left ps).length = sm at sh hsl2 hne
  have hpr : prRow 2 putA sm = .fresh 2 sm.length (encs putA sm) := by simp [prRow, hne]
  rw [hpr] at sh
  have pp := fun H => put_px0 [(2 * ((findL' key (rdL left ps) : Nat) : Int) + 1, lastP left (ps.take (findL' key (rdL left ps))))] .ro H (by simp) rfl (by simp; omega)
  have hpp : prRow 2 putA [(2 * ((findL' key (rdL left ps) : Nat) : Int) + 1, lastP left (ps.take (findL' key (rdL left ps))))] = .fresh 2 1 [.int .i64 (2 * ((findL' key (rdL left ps) : Nat) : Int) + 1), .int .u64 (lastP left (ps.take (findL' key (rdL left ps))))] := rfl
  rw [hpp] at pp
  have hws : encs pairA [(2 * ((findL' key (rdL left ps) : Nat) : Int) + 1, lastP left (ps.take (findL' key (rdL left ps))))] = [.int .u64 (2 * ((findL' key (rdL left ps) : Nat) : Int) + 1), .int .u64 (lastP left (ps.take (findL' key (rdL left ps))))] := rfl
  simp only [hws, List.length_cons, List.length_nil] at pp
  simp (disch := omega) only [wk1, wk2, wk3, wk4, wk5, wk6, avalE, aactE, evPE, boundE, asNat, Nat.zero_mul, Int.tdiv_eq_ediv_of_nonneg, Int.tmod_eq_emod_of_nonneg, List.length_append, Nat.mul_one, bv_seql cellsEq_ii, bv_sneqd cellsEq_ii, Bool.not_false, Bool.not_true, decide_eq_true_eq, Bool.not_eq_true, eq_self, ne_eq, and_true, true_and, and_self, not_true_eq_false, not_false_eq_true, if_true, if_false, decide_true, decide_false, Int.toNat_natCast, Int.natCast_nonneg, List.drop_zero, List.take_zero, List.take_succ_cons, List.drop_succ_cons, readC, allOne, Bool.and_self, Bool.and_true, Bool.true_and, fillL, beq_self_eq_true, Nat.one_mul, List.drop_nil, resE, tupled, List.map_nil, List.map_cons, Option.map_some, ↓reduceIte, Nat.reduceEqDiff, Int.reduceEq, Int.reduceLT, Int.reduceLE, Nat.reduceAdd, Nat.reduceMul, Nat.reduceLT, Nat.reduceLeDiff, reduceCtorEq, List.length_nil, List.length_cons, Nat.add_zero, Nat.sub_zero, List.nil_append, List.cons_append, List.getElem?_cons_zero, List.getElem?_cons_succ, List.set_cons_zero, List.set_cons_succ, pl, h2, must_t, g2, pa, ha, pp, sh, List.append_nil]
  have hH1 : 2 < H1.length := (List.getElem?_eq_some_iff.1 g2).1
  have i0 : (H1 ++ [AObj.tok 2] ++ [AObj.tok 2])[0]? = H1[0]? := by rw [List.append_assoc, List.getElem?_append_left (by omega)]
  have i1 : (H1 ++ [AObj.tok 2] ++ [AObj.tok 2])[1]? = H1[1]? := by rw [List.append_assoc, List.getElem?_append_left (by omega)]
  have i2 : (H1 ++ [AObj.tok 2] ++ [AObj.tok 2])[H1.length]? = some (.tok 2) := by rw [List.append_assoc, List.getElem?_append_right (Nat.le_refl _), Nat.sub_self]; rfl
  rw [g0] at i0
  rw [g1] at i1
  have hne2 : sm ≠ [] := by intro e; rw [e] at hne; cases hne
  refine runX_app (.inr ⟨by omega, _, rfl, i2⟩) (by omega) (by omega) (by omega) (by intro e; exact hne2 (List.length_eq_zero_iff.1 e)) (by rw [encs_length]) (allOne_encs (fun _ => rfl) _) (fun H' q1 q2 q3 => ?_)
  have j0 := q2 0 _ i0 (by simp only [tokOf, ne_eq, Option.some.injEq]; omega)
  have j1 := q2 1 _ i1 (by simp only [tokOf, ne_eq, Option.some.injEq]; omega)
  generalize hv : AV.sl 2 (1 + sm.length) _ _ = v2 at q1
  have v2o : v2.one = true ∧ v2.flat = [v2] := by rw [← hv]; exact ⟨rfl, rfl⟩
  have v2e : ∀ a b c, v2 ≠ .sl a b c .e := by intro a b c e; rw [← hv] at e; cases e
  have k3 : (H'.set 0 (.cells [v2]))[1]? = some (.cells [.int .i64 0]) := by rw [set_ne (by omega)]; exact j1
  have k4 : ((H'.set 0 (.cells [v2])).set 1 (.cells [.int .i64 0]))[0]? = some (.cells [v2]) := by rw [set_ne (by omega)]; exact set_eq j0
  have k5 : ((H'.set 0 (.cells [v2])).set 1 (.cells [.int .i64 0]))[1]? = some (.cells [.int .i64 0]) := set_eq k3
  simp (disch := omega) only [wk1, wk2, wk3, wk4, wk5, wk6, avalE, aactE, evPE, boundE, asNat, Nat.zero_mul, Int.tdiv_eq_ediv_of_nonneg, Int.tmod_eq_emod_of_nonneg, List.length_append, Nat.mul_one, bv_seql cellsEq_ii, bv_sneqd cellsEq_ii, Bool.not_false, Bool.not_true, decide_eq_true_eq, Bool.not_eq_true, eq_self, ne_eq, and_true, true_and, and_self, not_true_eq_false, not_false_eq_true, if_true, if_false, decide_true, decide_false, Int.toNat_natCast, Int.natCast_nonneg, List.drop_zero, List.take_zero, List.take_succ_cons, List.drop_succ_cons, readC, allOne, Bool.and_self, Bool.and_true, Bool.true_and, fillL, beq_self_eq_true, Nat.one_mul, List.drop_nil, resE, tupled, List.map_nil, List.map_cons, Option.map_some, ↓reduceIte, Nat.reduceEqDiff, Int.reduceEq, Int.reduceLT, Int.reduceLE, Nat.reduceAdd, Nat.reduceMul, Nat.reduceLT, Nat.reduceLeDiff, reduceCtorEq, List.length_nil, List.length_cons, Nat.add_zero, Nat.sub_zero, List.nil_append, List.cons_append, List.getElem?_cons_zero, List.getElem?_cons_succ, List.set_cons_zero, List.set_cons_succ, j0, k3, v2o.1, v2o.2, List.append_nil]
  rw [ends_left_ret (caught_ret _ _ _ _)]
  simp (disch := omega) only [wk1, wk2, wk3, wk4, wk5, wk6, avalE, aactE, evPE, boundE, asNat, Nat.zero_mul, Int.tdiv_eq_ediv_of_nonneg, Int.tmod_eq_emod_of_nonneg, List.length_append, Nat.mul_one, bv_seql cellsEq_ii, bv_sneqd cellsEq_ii, Bool.not_false, Bool.not_true, decide_eq_true_eq, Bool.not_eq_true, eq_self, ne_eq, and_true, true_and, and_self, not_true_eq_false, not_false_eq_true, if_true, if_false, decide_true, decide_false, Int.toNat_natCast, Int.natCast_nonneg, List.drop_zero, List.take_zero, List.take_succ_cons, List.drop_succ_cons, readC, allOne, Bool.and_self, Bool.and_true, Bool.true_and, fillL, beq_self_eq_true, Nat.one_mul, List.drop_nil, resE, tupled, List.map_nil, List.map_cons, Option.map_some, ↓reduceIte, Nat.reduceEqDiff, Int.reduceEq, Int.reduceLT, Int.reduceLE, Nat.reduceAdd, Nat.reduceMul, Nat.reduceLT, Nat.reduceLeDiff, reduceCtorEq, List.length_nil, List.length_cons, Nat.add_zero, Nat.sub_zero, List.nil_append, List.cons_append, List.getElem?_cons_zero, List.getElem?_cons_succ, List.set_cons_zero, List.set_cons_succ, k4, k5]
  have s1 : encs putA ((2 * ((findL' key (rdL left ps) : Nat) : Int) + 1, lastP left (ps.take (findL' key (rdL left ps)))) :: sm) = [.int .i64 (2 * ((findL' key (rdL left ps) : Nat) : Int) + 1), .int .u64 (lastP left (ps.take (findL' key (rdL left ps))))] ++ encs putA sm := rfl
  rw [← s1] at q1
  have l1 : 1 + sm.length = ((2 * ((findL' key (rdL left ps) : Nat) : Int) + 1, lastP left (ps.take (findL' key (rdL left ps)))) :: sm).length := by rw [List.length_cons]; omega
  rw [l1] at q1
  have w1 := own_unown q1 v2e
  have u2 : unown (.int .i64 0) = .int .i64 0 := rfl
  simp only [purify, unownT, List.map_cons, List.map_nil, w1, u2, AV.hf, hfL, slvR_hf (f := putA) (fun _ => rfl), Bool.and_self, if_true, resT]
end Go.Proofs.Ytjlgpfolnhilfaa
