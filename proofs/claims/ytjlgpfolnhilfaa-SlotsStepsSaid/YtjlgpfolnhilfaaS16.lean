/- THE WALKS OF empty, Clone AND does, AND A ROW IN MEMORY. No condition but those stated. -/
import Derived.Test.YtjlgpfolnhilfaaS12
import Derived.Test.YtjlgpfolnhilfaaS15
set_option linter.unusedSimpArgs false
set_option linter.unusedVariables false
set_option linter.unusedSectionVars false
namespace Go.Proofs.Ytjlgpfolnhilfaa
open Go Go.Am Go.Slots
set_option maxHeartbeats 2000000
set_option maxRecDepth 10000
/-- The first slot that counts for nothing. -/
def emF (prev : Int) (j : Nat) : List (Int × Int) → Option Nat
  | [] => none
  | x :: r => if x.2 = 0 then none else if x.2 = prev then some j else emF x.2 (j + 1) r
def emV : Option Nat → AV
  | none => .tup [.int .i64 0, .bool false]
  | some j => .tup [.int .i64 (j : Nat), .bool true]
theorem empty_px (left : Int) (ps : List (Int × Int)) (rest : List AV) (tk : Tk) (H : Heap) (hn : ps.length ≤ 1000) (hc : hfL rest = true) (ht : tk.hf = true) :
    pcx (cbL tab) 77 [rowV (2 * ps.length) (encs pairA ps ++ rest) tk left] H = some (.plain (emV (emF left 0 ps))) := by
  have hbare : (emV (emF left 0 ps)).bare = true := by cases emF left 0 ps <;> rfl
  obtain ⟨u1, e1, f1⟩ := lend_rowV (2 * ps.length) (encs pairA ps ++ rest) tk left
  refine pcx_L rfl (by rw [List.map_cons, List.map_nil, lendK_rowV]) (pc_wp (fi := c77) rfl ?_ (by simp [c77]) (by decide) ?_) hbare
  · simp only [pcOn, List.map_cons, List.map_nil, hfL, hf_lend_sl, hf_lend_int, hf_lend_bool, hf_lend_str, hfL_append, Bool.and_self, Bool.and_true, Bool.true_and, c77, hf_rowV, hf_lend_rowV, hc, ht, hf_pairA]
  unfold c77
  rw [List.map_cons, List.map_nil, e1, rowV]
  have rw1 := fun H => slotsraw_px left ps rest u1 H hn hc f1
  have hrl := rawL_le ps
  rw [rowV] at rw1
  simp (disch := omega) only [wk1, wk2, wk3, wk4, wk5, wk6, avalE, aactE, evPE, boundE, asNat, Nat.zero_mul, Int.tdiv_eq_ediv_of_nonneg, Int.tmod_eq_emod_of_nonneg, List.length_append, Nat.mul_one, bv_seql cellsEq_ii, bv_sneqd cellsEq_ii, Bool.not_false, Bool.not_true, decide_eq_true_eq, Bool.not_eq_true, eq_self, ne_eq, and_true, true_and, and_self, not_true_eq_false, not_false_eq_true, if_true, if_false, decide_true, decide_false, Int.toNat_natCast, Int.natCast_nonneg, List.drop_zero, List.take_zero, List.take_succ_cons, List.drop_succ_cons, readC, allOne, Bool.and_self, Bool.and_true, Bool.true_and, fillL, beq_self_eq_true, Nat.one_mul, List.drop_nil, resE, tupled, List.map_nil, List.map_cons, Option.map_some, ↓reduceIte, Nat.reduceEqDiff, Int.reduceEq, Int.reduceLT, Int.reduceLE, Nat.reduceAdd, Nat.reduceMul, Nat.reduceLT, Nat.reduceLeDiff, reduceCtorEq, List.length_nil, List.length_cons, Nat.add_zero, Nat.sub_zero, List.nil_append, List.cons_append, List.getElem?_cons_zero, List.getElem?_cons_succ, List.set_cons_zero, List.set_cons_succ, rw1]
  refine loop_ind (fun (x : List (Int × Int) × List (Int × Int)) E df H => ps = x.1 ++ x.2 ∧ emF left 0 ps = emF (lastP left x.1) x.1.length x.2 ∧ rawL ps = x.1.length + rawL x.2 ∧ E 1 = .ptr 0 0 ∧ E 6 = .int .i64 (rawL ps : Nat) ∧ E 7 = .int .i64 (x.1.length : Nat) ∧ df = [] ∧ H = [.cells [row ps rest u1, .int .u64 left]])
    (fun x => x.2.length) ([], ps) (by decide) (.inl rfl) ⟨rfl, rfl, by simp, rfl, rfl, rfl, rfl, rfl⟩ ?_
  intro ⟨pre, suf⟩ E df H ih hP
  obtain ⟨a1, a2, a3, E1, E6, E7, hdf, hH⟩ := hP
  dsimp only at a1 a2 a3 E7
  subst hdf hH
  have stop : rawL suf = 0 → emF (lastP left pre) pre.length suf = none := by
    intro h
    cases suf with
    | nil => rfl
    | cons x r =>
      rw [emF]
      rw [rawL] at h
      split at h
      · rename_i h0; rw [if_pos h0]
      · omega
  by_cases h0 : rawL suf = 0
  · rw [stop h0] at a2
    have e6 : (rawL ps : Int) = (pre.length : Int) := by omega
    rw [e6] at E6
    simp (disch := omega) only [wk1, wk2, wk3, wk4, wk5, wk6, avalE, aactE, evPE, boundE, asNat, Nat.zero_mul, Int.tdiv_eq_ediv_of_nonneg, Int.tmod_eq_emod_of_nonneg, List.length_append, Nat.mul_one, bv_seql cellsEq_ii, bv_sneqd cellsEq_ii, Bool.not_false, Bool.not_true, decide_eq_true_eq, Bool.not_eq_true, eq_self, ne_eq, and_true, true_and, and_self, not_true_eq_false, not_false_eq_true, if_true, if_false, decide_true, decide_false, Int.toNat_natCast, Int.natCast_nonneg, List.drop_zero, List.take_zero, List.take_succ_cons, List.drop_succ_cons, readC, allOne, Bool.and_self, Bool.and_true, Bool.true_and, fillL, beq_self_eq_true, Nat.one_mul, List.drop_nil, resE, tupled, List.map_nil, List.map_cons, Option.map_some, ↓reduceIte, Nat.reduceEqDiff, Int.reduceEq, Int.reduceLT, Int.reduceLE, Nat.reduceAdd, Nat.reduceMul, Nat.reduceLT, Nat.reduceLeDiff, reduceCtorEq, List.length_nil, List.length_cons, Nat.add_zero, Nat.sub_zero, List.nil_append, List.cons_append, List.getElem?_cons_zero, List.getElem?_cons_succ, List.set_cons_zero, List.set_cons_succ, E1, E6, E7, purify, unownT, AV.hf, hfL, a2, emV, unown]
  cases suf with
  | nil => exact absurd rfl h0
  | cons x r =>
    have hx0 : x.2 ≠ 0 := by
      intro e
      rw [rawL, if_pos e] at h0
      exact h0 rfl
    have hlt : (pre.length : Int) < (rawL ps : Int) := by omega
    have p1 := fun H => ptr_px pre x r rest u1 H (by rw [← a1]; exact hn) hc f1
    have p2 := fun H => slotsahead_px left pre (x :: r) rest u1 H (by rw [← a1]; exact hn) hc f1
    rw [← a1] at p1 p2
    rw [rowV] at p2
    simp only [row] at p1
    by_cases hx : x.2 = lastP left pre
    · have a4 : emF left 0 ps = some pre.length := by rw [a2, emF, if_neg hx0, if_pos hx]
      simp (disch := omega) only [wk1, wk2, wk3, wk4, wk5, wk6, avalE, aactE, evPE, boundE, asNat, Nat.zero_mul, Int.tdiv_eq_ediv_of_nonneg, Int.tmod_eq_emod_of_nonneg, List.length_append, Nat.mul_one, bv_seql cellsEq_ii, bv_sneqd cellsEq_ii, Bool.not_false, Bool.not_true, decide_eq_true_eq, Bool.not_eq_true, eq_self, ne_eq, and_true, true_and, and_self, not_true_eq_false, not_false_eq_true, if_true, if_false, decide_true, decide_false, Int.toNat_natCast, Int.natCast_nonneg, List.drop_zero, List.take_zero, List.take_succ_cons, List.drop_succ_cons, readC, allOne, Bool.and_self, Bool.and_true, Bool.true_and, fillL, beq_self_eq_true, Nat.one_mul, List.drop_nil, resE, tupled, List.map_nil, List.map_cons, Option.map_some, ↓reduceIte, Nat.reduceEqDiff, Int.reduceEq, Int.reduceLT, Int.reduceLE, Nat.reduceAdd, Nat.reduceMul, Nat.reduceLT, Nat.reduceLeDiff, reduceCtorEq, List.length_nil, List.length_cons, Nat.add_zero, Nat.sub_zero, List.nil_append, List.cons_append, List.getElem?_cons_zero, List.getElem?_cons_succ, List.set_cons_zero, List.set_cons_succ, E1, E6, E7, row, p1, p2, hlt, hx, purify, unownT, AV.hf, hfL, a4, emV, unown]
    · simp (disch := omega) only [wk1, wk2, wk3, wk4, wk5, wk6, avalE, aactE, evPE, boundE, asNat, Nat.zero_mul, Int.tdiv_eq_ediv_of_nonneg, Int.tmod_eq_emod_of_nonneg, List.length_append, Nat.mul_one, bv_seql cellsEq_ii, bv_sneqd cellsEq_ii, Bool.not_false, Bool.not_true, decide_eq_true_eq, Bool.not_eq_true, eq_self, ne_eq, and_true, true_and, and_self, not_true_eq_false, not_false_eq_true, if_true, if_false, decide_true, decide_false, Int.toNat_natCast, Int.natCast_nonneg, List.drop_zero, List.take_zero, List.take_succ_cons, List.drop_succ_cons, readC, allOne, Bool.and_self, Bool.and_true, Bool.true_and, fillL, beq_self_eq_true, Nat.one_mul, List.drop_nil, resE, tupled, List.map_nil, List.map_cons, Option.map_some, ↓reduceIte, Nat.reduceEqDiff, Int.reduceEq, Int.reduceLT, Int.reduceLE, Nat.reduceAdd, Nat.reduceMul, Nat.reduceLT, Nat.reduceLeDiff, reduceCtorEq, List.length_nil, List.length_cons, Nat.add_zero, Nat.sub_zero, List.nil_append, List.cons_append, List.getElem?_cons_zero, List.getElem?_cons_succ, List.set_cons_zero, List.set_cons_succ, E1, E6, E7, row, p1, p2, hlt, hx]
      refine ih (pre ++ [x], r) _ _ _ (by simp) ?_
      refine ⟨by simp [a1], ?_, ?_, by simp only [upd_app, updD_some, updD_none, ↓reduceIte, Nat.reduceEqDiff, if_true, if_false, List.length_append, List.length_cons, List.length_nil, Nat.zero_add, Nat.add_zero, cast_succ, argE_zero, argE_succ, E1], by simp only [upd_app, updD_some, updD_none, ↓reduceIte, Nat.reduceEqDiff, if_true, if_false, List.length_append, List.length_cons, List.length_nil, Nat.zero_add, Nat.add_zero, cast_succ, argE_zero, argE_succ, E6], by simp only [upd_app, updD_some, updD_none, ↓reduceIte, Nat.reduceEqDiff, if_true, if_false, List.length_append, List.length_cons, List.length_nil, Nat.zero_add, Nat.add_zero, cast_succ, argE_zero, argE_succ], rfl, rfl⟩
      · rw [a2, emF, if_neg hx0, if_neg hx]; simp [lastP_snoc]
      · rw [a3, rawL, if_neg hx0]; simp; omega
theorem em_good (prev : Int) (A R : List (Int × Int)) (j : Nat) (h : goodL prev A) : emF prev j (A ++ R) = emF (lastP prev A) (j + A.length) R := by
  induction A generalizing prev j with
  | nil => rfl
  | cons x r ih =>
    obtain ⟨h1, h2, h3⟩ := h
    have e : lastP prev (x :: r) = lastP x.2 r := by
      have := lastP_app prev [x] r
      simpa [lastP] using this
    rw [List.cons_append, emF, if_neg h1, if_neg h2, ih _ _ h3, e, List.length_cons]
    congr 1
    omega
theorem em_settled {left : Int} {M Z : List (Int × Int)} (h : okM left M) (hz : zeroL Z) : emF left 0 (M ++ Z) = none := by
  rw [em_good _ _ _ _ h.good]
  cases Z with
  | nil => rfl
  | cons x r => rw [emF, if_pos (hz x (List.mem_cons_self ..))]
theorem good_split (left : Int) (A B : List (Int × Int)) (hl : left ≠ 0) (h : goodL left (A ++ B)) : goodL left A ∧ lastP left A ≠ 0 := by
  induction A generalizing left with
  | nil => exact ⟨trivial, hl⟩
  | cons x r ih =>
    obtain ⟨h1, h2, h3⟩ := h
    obtain ⟨g1, g2⟩ := ih x.2 h1 h3
    have e : lastP left (x :: r) = lastP x.2 r := by
      have := lastP_app left [x] r
      simpa [lastP] using this
    rw [e]
    exact ⟨⟨h1, h2, g1⟩, g2⟩
theorem em_dup {left : Int} {A B Z : List (Int × Int)} {k : Int} (hl : left ≠ 0) (h : okM left (A ++ B)) : emF left 0 (A ++ (k, lastP left A) :: (B ++ Z)) = some A.length := by
  obtain ⟨g1, g2⟩ := good_split left A B hl h.good
  rw [em_good _ _ _ _ g1, emF, if_neg g2, if_pos rfl, Nat.zero_add]
theorem raw_dup {left : Int} {A B Z : List (Int × Int)} {k : Int} (hl : left ≠ 0) (h : okM left (A ++ B)) (hz : zeroL Z) : rawL (A ++ (k, lastP left A) :: (B ++ Z)) = A.length + 1 + B.length := by
  obtain ⟨g1, g2⟩ := good_split left A B hl h.good
  have := raw_app (A ++ (k, lastP left A) :: B) Z (fun x hx => by
    rw [List.mem_append, List.mem_cons] at hx
    rcases hx with hx | rfl | hx
    · exact h.2.2 x (by simp [hx])
    · exact g2
    · exact h.2.2 x (by simp [hx]))
  rw [raw_zero Z hz] at this
  simp only [List.append_assoc, List.cons_append, List.length_append, List.length_cons] at this
  omega
/-- Called on a picture, as on what it shows. -/
theorem pcx_pic {H : Heap} {f : FuncId} {args args' : List AV} (hl : (cbL tab).lent f = true) (h1 : args.map (lendK H 4) = args') (h2 : args'.map (lendK H 4) = args') : pcx (cbL tab) f args H = pcx (cbL tab) f args' H := by
  rw [pcx_lent hl, pcx_lent hl, enterL, enterL, h1, h2]
theorem lendK_ints (H : Heap) (k : Nat) (ps : List (Int × Int)) : (encs pairA ps).map (lendK H k) = encs pairA ps := by
  induction ps with
  | nil => rfl
  | cons x r ih => rw [encs_cons, List.map_append, ih]; simp only [pairA, List.map_cons, List.map_nil, lendK_int]
theorem mem_take (ps : List (Int × Int)) : List.take (2 * ps.length * 1) (List.drop 0 (encs pairA ps)) = encs pairA ps := by
  rw [List.drop_zero, List.take_of_length_le]
  rw [encs_length (k := 2)]
  omega
theorem lendK_msl {H : Heap} {i : Nat} {ps : List (Int × Int)} (h : H[i]? = some (.cells (encs pairA ps))) (k : Nat) : lendK H (k + 1) (.msl 1 i 0 (2 * ps.length)) = .sl 1 (2 * ps.length) (encs pairA ps) .ro := by
  have hl : (encs pairA ps).length = 2 * ps.length := by rw [encs_length (k := 2)]; omega
  rw [lendK]
  simp only [h]
  rw [if_pos (by omega), mem_take, lendK_ints]
theorem lendK_mrow {H : Heap} {i : Nat} {ps : List (Int × Int)} (left : Int) (h : H[i]? = some (.cells (encs pairA ps))) : lendK H 4 (.agg [.msl 1 i 0 (2 * ps.length), .int .u64 left]) = rowV (2 * ps.length) (encs pairA ps ++ []) .ro left := by
  rw [lendK_agg, List.map_cons, List.map_cons, List.map_nil, lendK_msl h, lendK_int, List.append_nil]
  rfl
theorem clone_px (n : Nat) (cs : List AV) (H : Heap) (hn : n ≤ 1000) (h0 : n ≠ 0) (hl : cs.length = n) (hc : hfL cs = true) (h1 : allOne cs = true) : pcx (cbL tab) 75 [.sl 1 n cs .ro] H = some (.fresh 1 n cs) := by
  refine pcx_N rfl (pc_wp (fi := c75) rfl ?_ (by simp [c75]) (by decide) ?_)
  · simp only [pcOn, List.map_cons, List.map_nil, hfL, hf_lend_sl, hf_lend_int, hf_lend_bool, hf_lend_str, hfL_append, Bool.and_self, Bool.and_true, Bool.true_and, c75, hc]
  unfold c75
  have e1 : lend (.sl 1 n cs .ro) = .sl 1 n cs .ro := rfl
  rw [List.map_cons, List.map_nil, e1]
  have a1 : appV 1 8 (.sl 1 0 [] .e) (.sl 1 n cs .ro) [] = some (.val (.sl 1 n cs (.own 0)), [.tok 1]) := by
    have ht : cs.take n = cs := List.take_of_length_le (by omega)
    have g1 : (0 + n) * 8 ≤ 70368744177664 := by omega
    have g2 : 0 + n ≤ 70368744177664 := by omega
    simp [appV, h0, ht, h1, hl]
    omega
  have eqn : ∀ (xo yo : X), binV .eql .slice xo yo (.sl 1 n cs .ro) (.sl 0 0 [] .z) = some (.bool false) := fun _ _ => rfl
  simp (disch := omega) only [wk1, wk2, wk3, wk4, wk5, wk6, avalE, aactE, evPE, boundE, asNat, Nat.zero_mul, Int.tdiv_eq_ediv_of_nonneg, Int.tmod_eq_emod_of_nonneg, List.length_append, Nat.mul_one, bv_seql cellsEq_ii, bv_sneqd cellsEq_ii, Bool.not_false, Bool.not_true, decide_eq_true_eq, Bool.not_eq_true, eq_self, ne_eq, and_true, true_and, and_self, not_true_eq_false, not_false_eq_true, if_true, if_false, decide_true, decide_false, Int.toNat_natCast, Int.natCast_nonneg, List.drop_zero, List.take_zero, List.take_succ_cons, List.drop_succ_cons, readC, allOne, Bool.and_self, Bool.and_true, Bool.true_and, fillL, beq_self_eq_true, Nat.one_mul, List.drop_nil, resE, tupled, List.map_nil, List.map_cons, Option.map_some, ↓reduceIte, Nat.reduceEqDiff, Int.reduceEq, Int.reduceLT, Int.reduceLE, Nat.reduceAdd, Nat.reduceMul, Nat.reduceLT, Nat.reduceLeDiff, reduceCtorEq, List.length_nil, List.length_cons, Nat.add_zero, Nat.sub_zero, List.nil_append, List.cons_append, List.getElem?_cons_zero, List.getElem?_cons_succ, List.set_cons_zero, List.set_cons_succ, a1, eqn, purify, hc]
end Go.Proofs.Ytjlgpfolnhilfaa
