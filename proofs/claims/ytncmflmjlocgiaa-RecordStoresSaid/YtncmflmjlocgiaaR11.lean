/- THE WALKS OF Stores. No condition but those stated. -/
import Derived.Test.YtncmflmjlocgiaaLWo
import Derived.Test.YtncmflmjlocgiaaAmRng
set_option linter.unusedSimpArgs false
set_option linter.unusedVariables false
set_option linter.unusedSectionVars false
namespace Go.Proofs.Ytncmflmjlocgiaa
open Go Go.Am Go.Rec
set_option maxHeartbeats 2000000
set_option maxRecDepth 10000
/-- The stores of words behind the first. -/
def stF (at' : Int) (j : Nat) : List Int → List (Int × Int)
  | [] => []
  | x :: r => (at' + 1 + (j : Int), x) :: stF at' (j + 1) r
def storesM (at' : Int) (w : List Int) : List (Int × Int) := stF at' 0 (w.drop 1) ++ [(at', w.headD 0)]
theorem stF_len (at' : Int) (j : Nat) (l : List Int) : (stF at' j l).length = l.length := by
  induction l generalizing j with
  | nil => rfl
  | cons x r ih => rw [stF, List.length_cons, ih, List.length_cons]
theorem stF_snoc (at' : Int) (j : Nat) (l : List Int) (x : Int) : stF at' j (l ++ [x]) = stF at' j l ++ [(at' + 1 + ((j + l.length : Nat) : Int), x)] := by
  induction l generalizing j with
  | nil => simp [stF]
  | cons y r ih =>
    rw [List.cons_append, stF, ih, stF, List.cons_append, List.length_cons]
    have : j + 1 + r.length = j + (r.length + 1) := by omega
    rw [this]
theorem all_ic (l : List Int) (rest : List AV) (tk : Tk) (H : Heap) : pcx (cbL tab) 57 [.sl 1 l.length (encs u64A l ++ rest) tk] H = none ∧
    (cbL tab).ic 57 [.sl 1 l.length (encs u64A l ++ rest) tk] H = some (.ret (.fn 91 [.ptr H.length 0]), H ++ [.cells [.sl 1 l.length (encs u64A l ++ rest) tk]]) := by
  refine ⟨pcx_none rfl (pc_none (fi := c57) rfl rfl), ?_⟩
  have : ∃ o H', (cbL tab).ic 57 [.sl 1 l.length (encs u64A l ++ rest) tk] H = some (o, H') ∧ o = .ret (.fn 91 [.ptr H.length 0]) ∧ H' = H ++ [.cells [.sl 1 l.length (encs u64A l ++ rest) tk]] := by
    refine ic_wp (fi := c57) rfl rfl (by simp [c57]) (by decide) ?_
    unfold c57
    simp (disch := omega) only [wk1, wk2, wk3, wk4, wk5, wk6, avalE, aactE, evPE, boundE, asNat, Nat.zero_mul, Int.tdiv_eq_ediv_of_nonneg, Int.tmod_eq_emod_of_nonneg, List.length_append, Nat.mul_one, bv_seql cellsEq_ii, bv_sneqd cellsEq_ii, Bool.not_false, Bool.not_true, decide_eq_true_eq, Bool.not_eq_true, eq_self, ne_eq, and_true, true_and, and_self, not_true_eq_false, not_false_eq_true, if_true, if_false, decide_true, decide_false, Int.toNat_natCast, Int.natCast_nonneg, List.drop_zero, List.take_zero, List.take_succ_cons, List.drop_succ_cons, readC, allOne, Bool.and_self, Bool.and_true, Bool.true_and, fillL, beq_self_eq_true, Nat.one_mul, List.drop_nil, resE, tupled, List.map_nil, List.map_cons, Option.map_some, ↓reduceIte, Nat.reduceEqDiff, Int.reduceEq, Int.reduceLT, Int.reduceLE, Nat.reduceAdd, Nat.reduceMul, Nat.reduceLT, Nat.reduceLeDiff, reduceCtorEq, List.length_nil, List.length_cons, Nat.add_zero, Nat.sub_zero, List.nil_append, List.cons_append, List.getElem?_cons_zero, List.getElem?_cons_succ, List.set_cons_zero, List.set_cons_succ]
  obtain ⟨o, H', h, rfl, rfl⟩ := this
  exact h
theorem lall : (cbL tab).lent 57 = false := rfl
theorem set_ne {H : Heap} {i j : Nat} {o : AObj} (h : i ≠ j) : (H.set i o)[j]? = H[j]? := List.getElem?_set_ne h
theorem set_eq {H : Heap} {i : Nat} {o q : AObj} (h : H[i]? = some q) : (H.set i o)[i]? = some o := by
  rw [List.getElem?_set_self (List.getElem?_eq_some_iff.1 h).1]
/-- What memory shows of the stores so far. -/
def StR (at' : Int) (sv : AV) (lo : AObj) (s : List (Int × Int)) (H : Heap) : Prop :=
  ∃ v, H[2]? = some (.cells [v]) ∧ Own H 2 v s.length (encs putA s) ∧ (∀ a b c, v ≠ .sl a b c .e) ∧ H[0]? = some (.cells [.int .i64 at']) ∧ H[3]? = some (.cells [sv]) ∧ H[4]? = some .defd ∧ H[5]? = some lo
def stAs : ACode := .seq (.region [⟨some 7, .mv (.t 20), none⟩]) (.region [⟨some 8, .mv (.t 21), none⟩])
def stBd : ACode := .block 1 (.region [⟨some 22, .load 1 false (.t 4), none⟩, ⟨some 23, .load 1 false (.t 2), none⟩, ⟨some 24, .bin .add .num (.t 23) (.c (.int .i64 1)), none⟩, ⟨some 25, .mv (.t 7), none⟩, ⟨some 26, .bin .add .num (.t 24) (.t 25), none⟩, ⟨some 27, .mv (.t 8), none⟩, ⟨some 28, .build [.int .i64 0, .int .u64 0] [(0, 1, .t 26), (1, 1, .t 27)], none⟩, ⟨some 29, .bslice 2 1 [.int .i64 0, .int .u64 0] [(0, 2, .t 28)], none⟩, ⟨some 30, .append 2 16 (.t 22) (.t 29), none⟩, ⟨none, .store 1 (.t 4) (.t 30), none⟩])
theorem st_round {at' : Int} {sv : AV} {E : Env} {tm : List AV} (ha : Ag 39 tm E) (E2 : E 2 = .ptr 0 0) (E4 : E 4 = .ptr 2 0) (h0 : 0 ≤ at') (h1 : at' ≤ 1000) (s : List (Int × Int)) (H : Heap) (j : Nat) (x : Int) (hj : j ≤ 1000) (hs : s.length ≤ 1000)
    (hR : StR at' sv (.loop 0 .normal tm [20, 21] stAs stBd) s H) :
    ∃ H', (cbL tab).yl 5 [.int .i64 (j : Nat), .int .u64 x] H = some (.ret (.bool true), H') ∧ StR at' sv (.loop 0 .normal tm [20, 21] stAs stBd) (s ++ [(at' + 1 + (j : Int), x)]) H' := by
  obtain ⟨v, g1, g2, g3, g4, g5, g6, g7⟩ := hR
  have key := yl_wp (tab := tab) (P := fun b H' => b = true ∧ StR at' sv (.loop 0 .normal tm [20, 21] stAs stBd) (s ++ [(at' + 1 + (j : Int), x)]) H')
    (args := [.int .i64 (j : Nat), .int .u64 x]) (readLoop_of g7) ha rfl (by decide) (by decide) (by decide) (by decide) (by decide) ?_
  · obtain ⟨b, H', k1, rfl, k2⟩ := key
    exact ⟨H', k1, k2⟩
  unfold stAs
  simp (disch := omega) only [wk1, wk2, wk3, wk4, wk5, wk6, avalE, aactE, evPE, boundE, asNat, Nat.zero_mul, Int.tdiv_eq_ediv_of_nonneg, Int.tmod_eq_emod_of_nonneg, List.length_append, Nat.mul_one, bv_seql cellsEq_ii, bv_sneqd cellsEq_ii, Bool.not_false, Bool.not_true, decide_eq_true_eq, Bool.not_eq_true, eq_self, ne_eq, and_true, true_and, and_self, not_true_eq_false, not_false_eq_true, if_true, if_false, decide_true, decide_false, Int.toNat_natCast, Int.natCast_nonneg, List.drop_zero, List.take_zero, List.take_succ_cons, List.drop_succ_cons, readC, allOne, Bool.and_self, Bool.and_true, Bool.true_and, fillL, beq_self_eq_true, Nat.one_mul, List.drop_nil, resE, tupled, List.map_nil, List.map_cons, Option.map_some, ↓reduceIte, Nat.reduceEqDiff, Int.reduceEq, Int.reduceLT, Int.reduceLE, Nat.reduceAdd, Nat.reduceMul, Nat.reduceLT, Nat.reduceLeDiff, reduceCtorEq, List.length_nil, List.length_cons, Nat.add_zero, Nat.sub_zero, List.nil_append, List.cons_append, List.getElem?_cons_zero, List.getElem?_cons_succ, List.set_cons_zero, List.set_cons_succ, updPs_cons, updPs_nil]
  refine ⟨rfl, rfl, _, _, _, _, _, readLoop_of g7, ?_⟩
  generalize hlo : AObj.loop 1 _ _ _ _ _ = lo
  have w2 : (H.set 5 lo)[2]? = some (.cells [v]) := by rw [set_ne (by omega)]; exact g1
  have w0 : (H.set 5 lo)[0]? = some (.cells [.int .i64 at']) := by rw [set_ne (by omega)]; exact g4
  have w3 : (H.set 5 lo)[3]? = some (.cells [sv]) := by rw [set_ne (by omega)]; exact g5
  have w4 : (H.set 5 lo)[4]? = some .defd := by rw [set_ne (by omega)]; exact g6
  have w5 : (H.set 5 lo)[5]? = some lo := set_eq g7
  have o2 : Own (H.set 5 lo) 2 v s.length (encs putA s) := g2.set g7 (by intro s e; cases e)
  obtain ⟨Hb, hHb⟩ : ∃ Hb, Hb = H.set 5 lo := ⟨_, rfl⟩
  rw [← hHb] at o2 w0 w2 w3 w4 w5 ⊢
  unfold stBd
  simp (disch := omega) only [wk1, wk2, wk3, wk4, wk5, wk6, avalE, aactE, evPE, boundE, asNat, Nat.zero_mul, Int.tdiv_eq_ediv_of_nonneg, Int.tmod_eq_emod_of_nonneg, List.length_append, Nat.mul_one, bv_seql cellsEq_ii, bv_sneqd cellsEq_ii, Bool.not_false, Bool.not_true, decide_eq_true_eq, Bool.not_eq_true, eq_self, ne_eq, and_true, true_and, and_self, not_true_eq_false, not_false_eq_true, if_true, if_false, decide_true, decide_false, Int.toNat_natCast, Int.natCast_nonneg, List.drop_zero, List.take_zero, List.take_succ_cons, List.drop_succ_cons, readC, allOne, Bool.and_self, Bool.and_true, Bool.true_and, fillL, beq_self_eq_true, Nat.one_mul, List.drop_nil, resE, tupled, List.map_nil, List.map_cons, Option.map_some, ↓reduceIte, Nat.reduceEqDiff, Int.reduceEq, Int.reduceLT, Int.reduceLE, Nat.reduceAdd, Nat.reduceMul, Nat.reduceLT, Nat.reduceLeDiff, reduceCtorEq, List.length_nil, List.length_cons, Nat.add_zero, Nat.sub_zero, List.nil_append, List.cons_append, List.getElem?_cons_zero, List.getElem?_cons_succ, List.set_cons_zero, List.set_cons_succ, E2, E4, w0, w2]
  refine runX_app o2 (by omega) (by omega) (by omega) (by omega) rfl rfl (fun H' q1 q2 q3 => ?_)
  have q0 := q2.cells o2 rfl w0 (by intro s e; cases e)
  have qa := q2.cells o2 rfl w2 (by intro s e; cases e)
  have qb := q2.cells o2 rfl w3 (by intro s e; cases e)
  have qc := q2.cells o2 rfl w4 (by intro s e; cases e)
  have qd := q2.cells o2 rfl w5 (by intro s e; rw [← hlo] at e; cases e)
  simp (disch := omega) only [wk1, wk2, wk3, wk4, wk5, wk6, avalE, aactE, evPE, boundE, asNat, Nat.zero_mul, Int.tdiv_eq_ediv_of_nonneg, Int.tmod_eq_emod_of_nonneg, List.length_append, Nat.mul_one, bv_seql cellsEq_ii, bv_sneqd cellsEq_ii, Bool.not_false, Bool.not_true, decide_eq_true_eq, Bool.not_eq_true, eq_self, ne_eq, and_true, true_and, and_self, not_true_eq_false, not_false_eq_true, if_true, if_false, decide_true, decide_false, Int.toNat_natCast, Int.natCast_nonneg, List.drop_zero, List.take_zero, List.take_succ_cons, List.drop_succ_cons, readC, allOne, Bool.and_self, Bool.and_true, Bool.true_and, fillL, beq_self_eq_true, Nat.one_mul, List.drop_nil, resE, tupled, List.map_nil, List.map_cons, Option.map_some, ↓reduceIte, Nat.reduceEqDiff, Int.reduceEq, Int.reduceLT, Int.reduceLE, Nat.reduceAdd, Nat.reduceMul, Nat.reduceLT, Nat.reduceLeDiff, reduceCtorEq, List.length_nil, List.length_cons, Nat.add_zero, Nat.sub_zero, List.nil_append, List.cons_append, List.getElem?_cons_zero, List.getElem?_cons_succ, List.set_cons_zero, List.set_cons_succ, E4, qa, List.append_nil]
  subst hlo
  refine ⟨rfl, _, _, _, _, _, _, readLoop_of (by rw [set_ne (by omega)]; exact qd), rfl, _, by rw [set_ne (by omega)]; exact set_eq qa, ?_, (by intro a b c e; cases e), by rw [set_ne (by omega), set_ne (by omega)]; exact q0, by rw [set_ne (by omega), set_ne (by omega)]; exact qb, by rw [set_ne (by omega), set_ne (by omega)]; exact qc, ?_⟩
  · have e1 : encs putA (s ++ [(at' + 1 + (j : Int), x)]) = encs putA s ++ [.int .i64 (at' + 1 + (j : Int)), .int .u64 x] := by rw [encs_append]; rfl
    rw [e1, List.length_append]
    have k1 := q1.set qa (q := .cells [.sl 2 (s.length + 1) (encs putA s ++ [.int .i64 (at' + 1 + (j : Int)), .int .u64 x]) (.own Hb.length)]) (by intro s e; cases e)
    exact k1.set (i := 5) (by rw [set_ne (by omega)]; exact qd) (by intro s e; cases e)
  · rw [set_eq (o := .loop 0 _ _ _ _ _) (by rw [set_ne (by omega)]; exact qd)]; rfl
/-- All rounds. -/
theorem all_run {at' : Int} {E : Env} {tm : List AV} (ha : Ag 39 tm E) (E2 : E 2 = .ptr 0 0) (E4 : E 4 = .ptr 2 0) (h0 : 0 ≤ at') (h1 : at' ≤ 1000) (l : List Int) (rest : List AV) (tk : Tk) (H : Heap) (hl : l.length ≤ 1000)
    (hR : StR at' (.sl 1 l.length (encs u64A l ++ rest) tk) (.loop 0 .normal tm [20, 21] stAs stBd) [] H) :
    ∃ o H', (cbL tab).ic 91 [.yld 5, .ptr 3 0] H = some (o, H') ∧ o = .ret (.tup []) ∧ StR at' (.sl 1 l.length (encs u64A l ++ rest) tk) (.loop 0 .normal tm [20, 21] stAs stBd) (stF at' 0 l) H' := by
  refine ic_wp (fi := c91) rfl (by simp [pcOn, c91, lend, unown, hfL, AV.hf]) (by simp [c91]) (by decide) ?_
  unfold c91
  have h3 := hR
  obtain ⟨_, _, _, _, _, h3, _, _⟩ := h3
  simp (disch := omega) only [wk1, wk2, wk3, wk4, wk5, wk6, avalE, aactE, evPE, boundE, asNat, Nat.zero_mul, Int.tdiv_eq_ediv_of_nonneg, Int.tmod_eq_emod_of_nonneg, List.length_append, Nat.mul_one, bv_seql cellsEq_ii, bv_sneqd cellsEq_ii, Bool.not_false, Bool.not_true, decide_eq_true_eq, Bool.not_eq_true, eq_self, ne_eq, and_true, true_and, and_self, not_true_eq_false, not_false_eq_true, if_true, if_false, decide_true, decide_false, Int.toNat_natCast, Int.natCast_nonneg, List.drop_zero, List.take_zero, List.take_succ_cons, List.drop_succ_cons, readC, allOne, Bool.and_self, Bool.and_true, Bool.true_and, fillL, beq_self_eq_true, Nat.one_mul, List.drop_nil, resE, tupled, List.map_nil, List.map_cons, Option.map_some, ↓reduceIte, Nat.reduceEqDiff, Int.reduceEq, Int.reduceLT, Int.reduceLE, Nat.reduceAdd, Nat.reduceMul, Nat.reduceLT, Nat.reduceLeDiff, reduceCtorEq, List.length_nil, List.length_cons, Nat.add_zero, Nat.sub_zero, List.nil_append, List.cons_append, List.getElem?_cons_zero, List.getElem?_cons_succ, List.set_cons_zero, List.set_cons_succ, h3]
  refine loop_ind (fun (x : List Int × List Int) E df H => l = x.1 ++ x.2 ∧ E 0 = .yld 5 ∧ E 5 = .sl 1 l.length (encs u64A l ++ rest) tk ∧ E 6 = .int .i64 (l.length : Nat) ∧ E 7 = .int .i64 (x.1.length : Nat) ∧ df = [] ∧ StR at' (.sl 1 l.length (encs u64A l ++ rest) tk) (.loop 0 .normal tm [20, 21] stAs stBd) (stF at' 0 x.1) H)
    (fun x => x.2.length) ([], l) (by decide) (.inl rfl) ⟨rfl, rfl, rfl, rfl, rfl, rfl, hR⟩ ?_
  intro ⟨pre, suf⟩ F df H1 ih hP
  obtain ⟨a1, F0, F5, F6, F7, hdf, hR1⟩ := hP
  dsimp only at a1 F7 hR1
  subst hdf
  have la : l.length = pre.length + suf.length := by rw [a1, List.length_append]
  cases suf with
  | nil =>
    rw [List.append_nil] at a1
    subst a1
    simp (disch := omega) only [wk1, wk2, wk3, wk4, wk5, wk6, avalE, aactE, evPE, boundE, asNat, Nat.zero_mul, Int.tdiv_eq_ediv_of_nonneg, Int.tmod_eq_emod_of_nonneg, List.length_append, Nat.mul_one, bv_seql cellsEq_ii, bv_sneqd cellsEq_ii, Bool.not_false, Bool.not_true, decide_eq_true_eq, Bool.not_eq_true, eq_self, ne_eq, and_true, true_and, and_self, not_true_eq_false, not_false_eq_true, if_true, if_false, decide_true, decide_false, Int.toNat_natCast, Int.natCast_nonneg, List.drop_zero, List.take_zero, List.take_succ_cons, List.drop_succ_cons, readC, allOne, Bool.and_self, Bool.and_true, Bool.true_and, fillL, beq_self_eq_true, Nat.one_mul, List.drop_nil, resE, tupled, List.map_nil, List.map_cons, Option.map_some, ↓reduceIte, Nat.reduceEqDiff, Int.reduceEq, Int.reduceLT, Int.reduceLE, Nat.reduceAdd, Nat.reduceMul, Nat.reduceLT, Nat.reduceLeDiff, reduceCtorEq, List.length_nil, List.length_cons, Nat.add_zero, Nat.sub_zero, List.nil_append, List.cons_append, List.getElem?_cons_zero, List.getElem?_cons_succ, List.set_cons_zero, List.set_cons_succ, F0, F5, F6, F7]
    exact hR1
  | cons x r =>
    simp only [List.length_cons] at la
    have d1 := wdrop pre x r rest
    rw [← a1] at d1
    have n1 : (pre.length : Int) < (l.length : Int) := by omega
    obtain ⟨H2, y1, y2⟩ := st_round ha E2 E4 h0 h1 (stF at' 0 pre) H1 pre.length x (by omega) (by rw [stF_len]; omega) hR1
    simp (disch := omega) only [wk1, wk2, wk3, wk4, wk5, wk6, avalE, aactE, evPE, boundE, asNat, Nat.zero_mul, Int.tdiv_eq_ediv_of_nonneg, Int.tmod_eq_emod_of_nonneg, List.length_append, Nat.mul_one, bv_seql cellsEq_ii, bv_sneqd cellsEq_ii, Bool.not_false, Bool.not_true, decide_eq_true_eq, Bool.not_eq_true, eq_self, ne_eq, and_true, true_and, and_self, not_true_eq_false, not_false_eq_true, if_true, if_false, decide_true, decide_false, Int.toNat_natCast, Int.natCast_nonneg, List.drop_zero, List.take_zero, List.take_succ_cons, List.drop_succ_cons, readC, allOne, Bool.and_self, Bool.and_true, Bool.true_and, fillL, beq_self_eq_true, Nat.one_mul, List.drop_nil, resE, tupled, List.map_nil, List.map_cons, Option.map_some, ↓reduceIte, Nat.reduceEqDiff, Int.reduceEq, Int.reduceLT, Int.reduceLE, Nat.reduceAdd, Nat.reduceMul, Nat.reduceLT, Nat.reduceLeDiff, reduceCtorEq, List.length_nil, List.length_cons, Nat.add_zero, Nat.sub_zero, List.nil_append, List.cons_append, List.getElem?_cons_zero, List.getElem?_cons_succ, List.set_cons_zero, List.set_cons_succ, F0, F5, F6, F7, n1, d1, y1, Bool.not_true]
    refine ih (pre ++ [x], r) _ _ _ (by simp) ?_
    refine ⟨by simp [a1], by simp only [upd_app, updD_some, updD_none, ↓reduceIte, Nat.reduceEqDiff, if_true, if_false, List.length_append, List.length_cons, List.length_nil, Nat.zero_add, Nat.add_zero, cast_succ, argE_zero, argE_succ, F0], by simp only [upd_app, updD_some, updD_none, ↓reduceIte, Nat.reduceEqDiff, if_true, if_false, List.length_append, List.length_cons, List.length_nil, Nat.zero_add, Nat.add_zero, cast_succ, argE_zero, argE_succ, F5], by simp only [upd_app, updD_some, updD_none, ↓reduceIte, Nat.reduceEqDiff, if_true, if_false, List.length_append, List.length_cons, List.length_nil, Nat.zero_add, Nat.add_zero, cast_succ, argE_zero, argE_succ, F6], by simp only [upd_app, updD_some, updD_none, ↓reduceIte, Nat.reduceEqDiff, if_true, if_false, List.length_append, List.length_cons, List.length_nil, Nat.zero_add, Nat.add_zero, cast_succ, argE_zero, argE_succ], rfl, ?_⟩
    dsimp only
    rw [stF_snoc, Nat.zero_add]
    exact y2
end Go.Proofs.Ytncmflmjlocgiaa
