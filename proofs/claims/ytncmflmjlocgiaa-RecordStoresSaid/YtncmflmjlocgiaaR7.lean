/- THE WALKS OF Words. No condition but those stated. -/
import Derived.Test.YtncmflmjlocgiaaR6
set_option linter.unusedSimpArgs false
set_option linter.unusedVariables false
set_option linter.unusedSectionVars false
namespace Go.Proofs.Ytncmflmjlocgiaa
open Go Go.Am Go.Rec
set_option maxHeartbeats 2000000
set_option maxRecDepth 10000
theorem repL_u64 (m : Nat) : repL m [AV.int .u64 0] = encs u64A (List.replicate m 0) := by
  induction m with
  | zero => rfl
  | succ m ih => rw [repL, ih, List.replicate_succ, encs_cons]; rfl
theorem appz_row (l : List Int) (g : Nat) (H : Heap) (hl : l.length ≤ 16) (hg : H[g]? = some (.tok 1)) (h0 : l ≠ []) :
    ∃ v' H', appzV 1 8 [.int .u64 0] (.sl 1 l.length (encs u64A l) (.own g)) (.int .i64 (16 - (l.length : Int))) H = some (.val v', H') ∧ Own H' 1 v' (l ++ List.replicate (16 - l.length) 0).length (encs u64A (l ++ List.replicate (16 - l.length) 0)) ∧ (∀ s n c, v' ≠ .sl s n c .e) := by
  have hp : l.length ≠ 0 := fun h => h0 (List.length_eq_zero_iff.1 h)
  have hm : madeN 1 8 [.int .u64 0] (.int .i64 (16 - (l.length : Int))) (.int .i64 (16 - (l.length : Int))) = some (16 - l.length) := by
    have e : (16 - (l.length : Int)).toNat = 16 - l.length := by omega
    simp only [madeN, e]
    rw [if_pos ⟨trivial, by omega, rfl, rfl, by omega, by omega⟩]
  by_cases hm0 : 16 - l.length = 0
  · refine ⟨.sl 1 l.length (encs u64A l) (.own g), H, ?_, ?_, by intro s n c h; cases h⟩
    · simp only [appzV, hm, hm0, appV]
      have h1 : l.length * 8 ≤ 70368744177664 := by omega
      simp [h1]
      omega
    · rw [hm0, List.replicate_zero, List.append_nil]
      exact .inr ⟨hp, g, rfl, hg⟩
  · refine ⟨.sl 1 (l.length + (16 - l.length)) (encs u64A l ++ repL (16 - l.length) [.int .u64 0]) (.own H.length), H.set g .dead ++ [.tok 1], ?_, ?_, by intro s n c h; cases h⟩
    · simp only [appzV, hm, appV, repL_u64]
      have h1 : (l.length + (16 - l.length)) * 8 ≤ 70368744177664 := by omega
      have h2 : l.length + (16 - l.length) ≤ 70368744177664 := by omega
      have h3 : (16 - l.length) * 1 ≤ (encs u64A (List.replicate (16 - l.length) 0)).length := by rw [lenU, List.length_replicate]; omega
      have h4 : (encs u64A (List.replicate (16 - l.length) 0)).take ((16 - l.length) * 1) = encs u64A (List.replicate (16 - l.length) 0) := List.take_of_length_le (by rw [lenU, List.length_replicate]; omega)
      simp only [hm0, h1, h2, h3, h4, one_u64A, hg, Nat.one_pos, and_self, if_true, if_false, true_and, and_true]
    · rw [repL_u64, ← encs_append, List.length_append, List.length_replicate]
      refine .inr ⟨by omega, H.length, rfl, ?_⟩
      rw [List.getElem?_append_right (by simp)]
      simp
theorem prRow_ne {α : Type} {sz : Nat} {f : α → List AV} {l : List α} (h : l ≠ []) : prRow sz f l = .fresh sz l.length (encs f l) := by
  unfold prRow
  have : l.isEmpty = false := by cases l with
    | nil => exact absurd rfl h
    | cons _ _ => rfl
  rw [this]; rfl
theorem layM_ne_nil {l : List UInt8} (h : l ≠ []) : layM l ≠ [] := by rw [layM_ne h]; simp
theorem recOk_ne {n : Int} {s : ByteArray} (h : recOk n s) : s.data.toList ≠ [] := by
  intro e
  have := h.2.2
  unfold nameM at this
  rw [if_pos (.inl (by rw [ByteArray.toList_eq, e]; rfl))] at this
  cases this
theorem app_e (x : Int) (l : List Int) (tk : Tk) (H : Heap) (h0 : l ≠ []) (hl : l.length ≤ 1000) :
    appV 1 8 (.sl 1 1 [.int .u64 x] .e) (.sl 1 l.length (encs u64A l) tk) H = some (.val (.sl 1 (x :: l).length (encs u64A (x :: l)) (.own H.length)), H ++ [.tok 1]) := by
  have hp : l.length ≠ 0 := fun h => h0 (List.length_eq_zero_iff.1 h)
  have h1 : (1 + l.length) * 8 ≤ 70368744177664 := by omega
  have h2 : 1 + l.length ≤ 70368744177664 := by omega
  have h3 : l.length ≤ (encs u64A l).length := by rw [lenU]; omega
  have h4 : (encs u64A l).take l.length = encs u64A l := List.take_of_length_le (by rw [lenU]; omega)
  have e : [AV.int .u64 x] ++ encs u64A l = encs u64A (x :: l) := rfl
  have e2 : 1 + l.length = (x :: l).length := by rw [List.length_cons]; omega
  simp only [appV, hp, h1, h2, h3, h4, one_u64A, Nat.one_pos, and_self, if_true, if_false, true_and, List.length_cons, List.length_nil, Nat.mul_one, Nat.zero_add, e]
  rw [Nat.add_comm 1]
theorem padded_ic (l : List Int) (g : Nat) (H : Heap) (hl : l.length ≤ 16) (hg : H[g]? = some (.tok 1)) (h0 : l ≠ []) :
    pcx (cbL tab) 48 [.sl 1 l.length (encs u64A l) (.own g)] H = none ∧ ∃ v' H', (cbL tab).ic 48 [.sl 1 l.length (encs u64A l) (.own g)] H = some (.ret v', H') ∧ Own H' 1 v' (l ++ List.replicate (16 - l.length) 0).length (encs u64A (l ++ List.replicate (16 - l.length) 0)) ∧ (∀ s n c, v' ≠ .sl s n c .e) := by
  have hon : pcOn c48 [.sl 1 l.length (encs u64A l) (.own g)] = false := by
    simp [pcOn, c48, hfL, AV.hf, Tk.hf]
  refine ⟨pcx_none rfl (pc_none (fi := c48) rfl hon), ?_⟩
  have : ∃ o H', (cbL tab).ic 48 [.sl 1 l.length (encs u64A l) (.own g)] H = some (o, H') ∧ ∃ v', o = .ret v' ∧ Own H' 1 v' (l ++ List.replicate (16 - l.length) 0).length (encs u64A (l ++ List.replicate (16 - l.length) 0)) ∧ (∀ s n c, v' ≠ .sl s n c .e) := by
    refine ic_wp (fi := c48) rfl hon (by simp [c48]) (by decide) ?_
    unfold c48
    obtain ⟨v', H', h1, h2, h3⟩ := appz_row l g H hl hg h0
    simp (disch := omega) only [wk1, wk2, wk3, wk4, wk5, wk6, avalE, aactE, evPE, boundE, asNat, Nat.zero_mul, Int.tdiv_eq_ediv_of_nonneg, Int.tmod_eq_emod_of_nonneg, List.length_append, Nat.mul_one, bv_seql cellsEq_ii, bv_sneqd cellsEq_ii, Bool.not_false, Bool.not_true, decide_eq_true_eq, Bool.not_eq_true, eq_self, ne_eq, and_true, true_and, and_self, not_true_eq_false, not_false_eq_true, if_true, if_false, decide_true, decide_false, Int.toNat_natCast, Int.natCast_nonneg, List.drop_zero, List.take_zero, List.take_succ_cons, List.drop_succ_cons, readC, allOne, Bool.and_self, Bool.and_true, Bool.true_and, fillL, beq_self_eq_true, Nat.one_mul, List.drop_nil, resE, tupled, List.map_nil, List.map_cons, Option.map_some, ↓reduceIte, Nat.reduceEqDiff, Int.reduceEq, Int.reduceLT, Int.reduceLE, Nat.reduceAdd, Nat.reduceMul, Nat.reduceLT, Nat.reduceLeDiff, reduceCtorEq, List.length_nil, List.length_cons, Nat.add_zero, Nat.sub_zero, List.nil_append, List.cons_append, List.getElem?_cons_zero, List.getElem?_cons_succ, List.set_cons_zero, List.set_cons_succ, h1]
    exact ⟨_, rfl, by rw [← List.length_append]; exact h2, h3⟩
  obtain ⟨o, H', h1, v', rfl, h2, h3⟩ := this
  exact ⟨v', H', h1, h2, h3⟩
theorem lpad : (cbL tab).lent 48 = false := rfl
def wordsR (n : Int) (s : ByteArray) : List Int × Int := if recOk n s then (wordsM n s, 0) else ([], 250)
def resW (x : List Int × Int) : AV := .tup [slvR 1 u64A x.1, .int .i64 x.2]
theorem hf_resW (x : List Int × Int) : hfL [slvR 1 u64A x.1, .int .i64 x.2] = true := by
  simp [AV.hf, hfL, slvR_hf (f := u64A) (fun _ => rfl)]
theorem words_px (n : Int) (s : ByteArray) (H : Heap) : pcx (cbL tab) 15 [recV n s] H = some (.plain (resW (wordsR n s))) := by
  refine pcx_N rfl (pc_wp (fi := c15) rfl rfl (by simp [c15]) (by decide) ?_)
  unfold c15
  rw [List.map_cons, List.map_nil, lend_recV, recV]
  have p1 := fun H => check_px n s H
  simp only [recV] at p1
  unfold wordsR
  by_cases h : recOk n s
  case neg =>
    have e : checkM n s = 250 := if_neg h
    have e2 : slvR 1 u64A [] = .sl 0 0 [] .z := rfl
    simp (disch := omega) only [wk1, wk2, wk3, wk4, wk5, wk6, avalE, aactE, evPE, boundE, asNat, Nat.zero_mul, Int.tdiv_eq_ediv_of_nonneg, Int.tmod_eq_emod_of_nonneg, List.length_append, Nat.mul_one, bv_seql cellsEq_ii, bv_sneqd cellsEq_ii, Bool.not_false, Bool.not_true, decide_eq_true_eq, Bool.not_eq_true, eq_self, ne_eq, and_true, true_and, and_self, not_true_eq_false, not_false_eq_true, if_true, if_false, decide_true, decide_false, Int.toNat_natCast, Int.natCast_nonneg, List.drop_zero, List.take_zero, List.take_succ_cons, List.drop_succ_cons, readC, allOne, Bool.and_self, Bool.and_true, Bool.true_and, fillL, beq_self_eq_true, Nat.one_mul, List.drop_nil, resE, tupled, List.map_nil, List.map_cons, Option.map_some, ↓reduceIte, Nat.reduceEqDiff, Int.reduceEq, Int.reduceLT, Int.reduceLE, Nat.reduceAdd, Nat.reduceMul, Nat.reduceLT, Nat.reduceLeDiff, reduceCtorEq, List.length_nil, List.length_cons, Nat.add_zero, Nat.sub_zero, List.nil_append, List.cons_append, List.getElem?_cons_zero, List.getElem?_cons_succ, List.set_cons_zero, List.set_cons_succ, p1, e, h, e2, resW, purify, unownT, AV.hf, hfL, unown, Tk.hf]
  have e : checkM n s = 0 := if_pos h
  have hs := nameM_size h.2.2
  have hne := recOk_ne h
  have w1 := fun H => with_px n (s.size : Int) (by have := h.1; omega) (by have := h.2.1; omega) (by omega) (by omega) H
  have cv : IntKind.u64.wrap n = n := wrap_u64 (by have := h.1; omega) (by have := h.2.1; omega)
  have cs : s.size ≤ 70368744177664 := by omega
  have l1 : ∀ tk H, pcx (cbL tab) 49 [.sl 1 s.size (encs byA s.data.toList) tk] H = some (prRow 1 u64A (layM s.data.toList)) := fun tk H => by
    have := lay_px s.data.toList 1 tk H (by rw [size_data]; omega) rfl
    rw [size_data] at this
    exact this
  have ll : (layM s.data.toList).length ≤ 15 := by rw [layM_len, size_data]; omega
  obtain ⟨q1, v', H', q2, q3, q4⟩ := padded_ic (wordsL n s) 2 ([.cells [.int .i64 n, .str s], .tok 1] ++ [.tok 1]) (by rw [wordsL_len]; omega) rfl (by simp [wordsL])
  simp only [List.cons_append, List.nil_append] at q1 q2
  have ae := fun x tk H => app_e x (layM s.data.toList) tk H (layM_ne_nil hne) (by omega)
  have wl : (n + 65536 * (s.size : Int)) :: layM s.data.toList = wordsL n s := rfl
  have hu : unown v' = slvR 1 u64A (wordsM n s) := own_unown q3 q4
  have hw := hf_resW (wordsM n s, 0)
  dsimp only at hw
  simp (disch := omega) only [wk1, wk2, wk3, wk4, wk5, wk6, avalE, aactE, evPE, boundE, asNat, Nat.zero_mul, Int.tdiv_eq_ediv_of_nonneg, Int.tmod_eq_emod_of_nonneg, List.length_append, Nat.mul_one, bv_seql cellsEq_ii, bv_sneqd cellsEq_ii, Bool.not_false, Bool.not_true, decide_eq_true_eq, Bool.not_eq_true, eq_self, ne_eq, and_true, true_and, and_self, not_true_eq_false, not_false_eq_true, if_true, if_false, decide_true, decide_false, Int.toNat_natCast, Int.natCast_nonneg, List.drop_zero, List.take_zero, List.take_succ_cons, List.drop_succ_cons, readC, allOne, Bool.and_self, Bool.and_true, Bool.true_and, fillL, beq_self_eq_true, Nat.one_mul, List.drop_nil, resE, tupled, List.map_nil, List.map_cons, Option.map_some, ↓reduceIte, Nat.reduceEqDiff, Int.reduceEq, Int.reduceLT, Int.reduceLE, Nat.reduceAdd, Nat.reduceMul, Nat.reduceLT, Nat.reduceLeDiff, reduceCtorEq, List.length_nil, List.length_cons, Nat.add_zero, Nat.sub_zero, List.nil_append, List.cons_append, List.getElem?_cons_zero, List.getElem?_cons_succ, List.set_cons_zero, List.set_cons_succ, p1, e, h, cv, w1, bytesA_encs, cs, l1, prRow_ne (layM_ne_nil hne), ae, wl]
  simp (disch := omega) only [wk1, wk2, wk3, wk4, wk5, wk6, avalE, aactE, evPE, boundE, asNat, Nat.zero_mul, Int.tdiv_eq_ediv_of_nonneg, Int.tmod_eq_emod_of_nonneg, List.length_append, Nat.mul_one, bv_seql cellsEq_ii, bv_sneqd cellsEq_ii, Bool.not_false, Bool.not_true, decide_eq_true_eq, Bool.not_eq_true, eq_self, ne_eq, and_true, true_and, and_self, not_true_eq_false, not_false_eq_true, if_true, if_false, decide_true, decide_false, Int.toNat_natCast, Int.natCast_nonneg, List.drop_zero, List.take_zero, List.take_succ_cons, List.drop_succ_cons, readC, allOne, Bool.and_self, Bool.and_true, Bool.true_and, fillL, beq_self_eq_true, Nat.one_mul, List.drop_nil, resE, tupled, List.map_nil, List.map_cons, Option.map_some, ↓reduceIte, Nat.reduceEqDiff, Int.reduceEq, Int.reduceLT, Int.reduceLE, Nat.reduceAdd, Nat.reduceMul, Nat.reduceLT, Nat.reduceLeDiff, reduceCtorEq, List.length_nil, List.length_cons, Nat.add_zero, Nat.sub_zero, List.nil_append, List.cons_append, List.getElem?_cons_zero, List.getElem?_cons_succ, List.set_cons_zero, List.set_cons_succ, q1, q2, runE_none lpad, resW]
  have hp : purify (some (.ret (.tup [v', .int .i64 0]), H')) = if (unownT (.tup [v', .int .i64 0])).hf then some (.plain (unownT (.tup [v', .int .i64 0]))) else none := rfl
  rw [hp]
  have he : unownT (.tup [v', .int .i64 0]) = .tup [slvR 1 u64A (wordsM n s), .int .i64 0] := by
    show AV.tup [unown v', _] = _
    rw [hu]; rfl
  rw [he, if_pos (by exact hw)]
theorem rwords_px (n : Int) (s : ByteArray) (H : Heap) (hn : s.size ≤ 1000) : pcx (cbL tab) 16 [recV n s] H = some (.plain (resW (wordsR n s))) := by
  refine pcx_N rfl (pc_wp (fi := c16) rfl rfl (by simp [c16]) (by decide) ?_)
  unfold c16
  rw [List.map_cons, List.map_nil, lend_recV, recV]
  have p1 := fun H => rcheck15_px n s H hn
  simp only [recV] at p1
  unfold wordsR
  by_cases h : recOk n s
  case neg =>
    have e : checkM n s = 250 := if_neg h
    have e2 : slvR 1 u64A [] = .sl 0 0 [] .z := rfl
    simp (disch := omega) only [wk1, wk2, wk3, wk4, wk5, wk6, avalE, aactE, evPE, boundE, asNat, Nat.zero_mul, Int.tdiv_eq_ediv_of_nonneg, Int.tmod_eq_emod_of_nonneg, List.length_append, Nat.mul_one, bv_seql cellsEq_ii, bv_sneqd cellsEq_ii, Bool.not_false, Bool.not_true, decide_eq_true_eq, Bool.not_eq_true, eq_self, ne_eq, and_true, true_and, and_self, not_true_eq_false, not_false_eq_true, if_true, if_false, decide_true, decide_false, Int.toNat_natCast, Int.natCast_nonneg, List.drop_zero, List.take_zero, List.take_succ_cons, List.drop_succ_cons, readC, allOne, Bool.and_self, Bool.and_true, Bool.true_and, fillL, beq_self_eq_true, Nat.one_mul, List.drop_nil, resE, tupled, List.map_nil, List.map_cons, Option.map_some, ↓reduceIte, Nat.reduceEqDiff, Int.reduceEq, Int.reduceLT, Int.reduceLE, Nat.reduceAdd, Nat.reduceMul, Nat.reduceLT, Nat.reduceLeDiff, reduceCtorEq, List.length_nil, List.length_cons, Nat.add_zero, Nat.sub_zero, List.nil_append, List.cons_append, List.getElem?_cons_zero, List.getElem?_cons_succ, List.set_cons_zero, List.set_cons_succ, p1, e, h, e2, resW, purify, unownT, AV.hf, hfL, unown, Tk.hf]
  have e : checkM n s = 0 := if_pos h
  have hs := nameM_size h.2.2
  have hne := recOk_ne h
  have cv : IntKind.u64.wrap n = n := wrap_u64 (by have := h.1; omega) (by have := h.2.1; omega)
  have cv2 : IntKind.u64.wrap (n + 65536 * (s.size : Int)) = n + 65536 * (s.size : Int) := wrap_u64 (by have := h.1; omega) (by have := h.2.1; omega)
  have cs : s.size ≤ 70368744177664 := by omega
  have l1 : ∀ tk H, pcx (cbL tab) 50 [.sl 1 s.size (encs byA s.data.toList) tk] H = some (prRow 1 u64A (layM s.data.toList)) := fun tk H => by
    have := rlay_px s.data.toList 1 tk H (by rw [size_data]; omega) rfl
    rw [size_data] at this
    exact this
  have ll : (layM s.data.toList).length ≤ 15 := by rw [layM_len, size_data]; omega
  obtain ⟨v', H', q2, q3, q4⟩ := appz_row (wordsL n s) 2 ([.cells [.int .i64 n, .str s], .tok 1] ++ [.tok 1]) (by rw [wordsL_len]; omega) rfl (by simp [wordsL])
  simp only [List.cons_append, List.nil_append] at q2
  have ae := fun x tk H => app_e x (layM s.data.toList) tk H (layM_ne_nil hne) (by omega)
  have wl : (n + 65536 * (s.size : Int)) :: layM s.data.toList = wordsL n s := rfl
  have hu : unown v' = slvR 1 u64A (wordsM n s) := own_unown q3 q4
  have hw := hf_resW (wordsM n s, 0)
  dsimp only at hw
  have wl2 : (wordsL n s).length ≤ 16 := by rw [wordsL_len]; omega
  simp (disch := omega) only [wk1, wk2, wk3, wk4, wk5, wk6, avalE, aactE, evPE, boundE, asNat, Nat.zero_mul, Int.tdiv_eq_ediv_of_nonneg, Int.tmod_eq_emod_of_nonneg, List.length_append, Nat.mul_one, bv_seql cellsEq_ii, bv_sneqd cellsEq_ii, Bool.not_false, Bool.not_true, decide_eq_true_eq, Bool.not_eq_true, eq_self, ne_eq, and_true, true_and, and_self, not_true_eq_false, not_false_eq_true, if_true, if_false, decide_true, decide_false, Int.toNat_natCast, Int.natCast_nonneg, List.drop_zero, List.take_zero, List.take_succ_cons, List.drop_succ_cons, readC, allOne, Bool.and_self, Bool.and_true, Bool.true_and, fillL, beq_self_eq_true, Nat.one_mul, List.drop_nil, resE, tupled, List.map_nil, List.map_cons, Option.map_some, ↓reduceIte, Nat.reduceEqDiff, Int.reduceEq, Int.reduceLT, Int.reduceLE, Nat.reduceAdd, Nat.reduceMul, Nat.reduceLT, Nat.reduceLeDiff, reduceCtorEq, List.length_nil, List.length_cons, Nat.add_zero, Nat.sub_zero, List.nil_append, List.cons_append, List.getElem?_cons_zero, List.getElem?_cons_succ, List.set_cons_zero, List.set_cons_succ, p1, e, h, cv, cv2, bytesA_encs, cs, l1, prRow_ne (layM_ne_nil hne), ae, wl]
  simp (disch := omega) only [wk1, wk2, wk3, wk4, wk5, wk6, avalE, aactE, evPE, boundE, asNat, Nat.zero_mul, Int.tdiv_eq_ediv_of_nonneg, Int.tmod_eq_emod_of_nonneg, List.length_append, Nat.mul_one, bv_seql cellsEq_ii, bv_sneqd cellsEq_ii, Bool.not_false, Bool.not_true, decide_eq_true_eq, Bool.not_eq_true, eq_self, ne_eq, and_true, true_and, and_self, not_true_eq_false, not_false_eq_true, if_true, if_false, decide_true, decide_false, Int.toNat_natCast, Int.natCast_nonneg, List.drop_zero, List.take_zero, List.take_succ_cons, List.drop_succ_cons, readC, allOne, Bool.and_self, Bool.and_true, Bool.true_and, fillL, beq_self_eq_true, Nat.one_mul, List.drop_nil, resE, tupled, List.map_nil, List.map_cons, Option.map_some, ↓reduceIte, Nat.reduceEqDiff, Int.reduceEq, Int.reduceLT, Int.reduceLE, Nat.reduceAdd, Nat.reduceMul, Nat.reduceLT, Nat.reduceLeDiff, reduceCtorEq, List.length_nil, List.length_cons, Nat.add_zero, Nat.sub_zero, List.nil_append, List.cons_append, List.getElem?_cons_zero, List.getElem?_cons_succ, List.set_cons_zero, List.set_cons_succ, q2, resW]
  have hp : purify (some (.ret (.tup [v', .int .i64 0]), H')) = if (unownT (.tup [v', .int .i64 0])).hf then some (.plain (unownT (.tup [v', .int .i64 0]))) else none := rfl
  rw [hp]
  have he : unownT (.tup [v', .int .i64 0]) = .tup [slvR 1 u64A (wordsM n s), .int .i64 0] := by
    show AV.tup [unown v', _] = _
    rw [hu]; rfl
  rw [he, if_pos (by exact hw)]
end Go.Proofs.Ytncmflmjlocgiaa
