/- THE WALK OF Stores. No condition but those stated. -/
import Derived.Test.YtncmflmjlocgiaaR11
set_option linter.unusedSimpArgs false
set_option linter.unusedVariables false
set_option linter.unusedSectionVars false
namespace Go.Proofs.Ytncmflmjlocgiaa
open Go Go.Am Go.Rec
set_option maxHeartbeats 2000000
set_option maxRecDepth 10000
def stTl : ACode := .seq (.drawn [⟨some 31, .load 1 false (.t 4), none⟩, ⟨some 32, .load 1 false (.t 2), none⟩, ⟨some 33, .mv (.t 6), none⟩, ⟨some 34, .ixa 1 (.t 33) (.c (.int .i64 0)), none⟩, ⟨some 35, .load 1 false (.t 34), none⟩, ⟨some 36, .build [.int .i64 0, .int .u64 0] [(0, 1, .t 32), (1, 1, .t 35)], none⟩, ⟨some 37, .bslice 2 1 [.int .i64 0, .int .u64 0] [(0, 2, .t 36)], none⟩]
  [⟨some 38, .append 2 16 (.t 31) (.t 37), none⟩, ⟨none, .store 1 (.t 4) (.t 38), none⟩, ⟨some 5, .mv (.c (.int .i64 0)), none⟩]) .ret
def resP (x : List (Int × Int) × Int) : AV := .tup [slvR 2 putA x.1, .int .i64 x.2]
theorem hf_resP (x : List (Int × Int) × Int) : hfL [slvR 2 putA x.1, .int .i64 x.2] = true := by
  simp [AV.hf, hfL, slvR_hf (f := putA) (fun _ => rfl)]
theorem st_end {at' x0 : Int} {sv : AV} {lo lo' : AObj} {tl : List Int} {E : Env} (E2 : E 2 = .ptr 0 0) (E4 : E 4 = .ptr 2 0) (E6 : E 6 = .sl 1 16 (.int .u64 x0 :: encs u64A tl) .ro) {s : List (Int × Int)} (hs : s.length ≤ 1000) {H2 : Heap} (hlo : ∀ s, lo ≠ .tok s) (h2 : StR at' sv lo s H2) :
    Ret (cbL tab) none 39 (Am.Ends tab [.cell 4 1 false, .tmp 5] fun o H => purify (some (o, H)) = some (.plain (resP (s ++ [(at', x0)], 0)))) [.blk 0, .code stTl] .normal E [.mark 4] (H2.set 5 lo') := by
  obtain ⟨v, g1, g2, g3, g4, g5, g6, g7⟩ := h2
  have w2 : (H2.set 5 lo')[2]? = some (.cells [v]) := by rw [set_ne (by omega)]; exact g1
  have w0 : (H2.set 5 lo')[0]? = some (.cells [.int .i64 at']) := by rw [set_ne (by omega)]; exact g4
  have w4 : (H2.set 5 lo')[4]? = some .defd := by rw [set_ne (by omega)]; exact g6
  have o2 : Own (H2.set 5 lo') 2 v s.length (encs putA s) := g2.set g7 hlo
  obtain ⟨Hb, hHb⟩ : ∃ Hb, Hb = H2.set 5 lo' := ⟨_, rfl⟩
  rw [← hHb] at o2 w0 w2 w4 ⊢
  unfold stTl
  simp (disch := omega) only [wk1, wk2, wk3, wk4, wk5, wk6, avalE, aactE, evPE, boundE, asNat, Nat.zero_mul, Int.tdiv_eq_ediv_of_nonneg, Int.tmod_eq_emod_of_nonneg, List.length_append, Nat.mul_one, bv_seql cellsEq_ii, bv_sneqd cellsEq_ii, Bool.not_false, Bool.not_true, decide_eq_true_eq, Bool.not_eq_true, eq_self, ne_eq, and_true, true_and, and_self, not_true_eq_false, not_false_eq_true, if_true, if_false, decide_true, decide_false, Int.toNat_natCast, Int.natCast_nonneg, List.drop_zero, List.take_zero, List.take_succ_cons, List.drop_succ_cons, readC, allOne, Bool.and_self, Bool.and_true, Bool.true_and, fillL, beq_self_eq_true, Nat.one_mul, List.drop_nil, resE, tupled, List.map_nil, List.map_cons, Option.map_some, ↓reduceIte, Nat.reduceEqDiff, Int.reduceEq, Int.reduceLT, Int.reduceLE, Nat.reduceAdd, Nat.reduceMul, Nat.reduceLT, Nat.reduceLeDiff, reduceCtorEq, List.length_nil, List.length_cons, Nat.add_zero, Nat.sub_zero, List.nil_append, List.cons_append, List.getElem?_cons_zero, List.getElem?_cons_succ, List.set_cons_zero, List.set_cons_succ, E2, E4, E6, w0, w2, Int.toNat_zero, List.append_nil]
  refine runX_app o2 (by omega) (by omega) (by omega) (by omega) rfl rfl (fun H' q1 q2 q3 => ?_)
  have qa := q2.cells o2 rfl w2 (by intro s e; cases e)
  have qc := q2.cells o2 rfl w4 (by intro s e; cases e)
  have e1 : encs putA (s ++ [(at', x0)]) = encs putA s ++ [.int .i64 at', .int .u64 x0] := by rw [encs_append]; rfl
  have j3 : ∀ o, (H'.set 2 o)[4]? = some .defd := fun o => by rw [set_ne (by omega)]; exact qc
  have j4 : ∀ o, ((H'.set 2 o).set 4 .dead)[2]? = some o := fun o => by rw [set_ne (by omega)]; exact set_eq qa
  simp (disch := omega) only [wk1, wk2, wk3, wk4, wk5, wk6, avalE, aactE, evPE, boundE, asNat, Nat.zero_mul, Int.tdiv_eq_ediv_of_nonneg, Int.tmod_eq_emod_of_nonneg, List.length_append, Nat.mul_one, bv_seql cellsEq_ii, bv_sneqd cellsEq_ii, Bool.not_false, Bool.not_true, decide_eq_true_eq, Bool.not_eq_true, eq_self, ne_eq, and_true, true_and, and_self, not_true_eq_false, not_false_eq_true, if_true, if_false, decide_true, decide_false, Int.toNat_natCast, Int.natCast_nonneg, List.drop_zero, List.take_zero, List.take_succ_cons, List.drop_succ_cons, readC, allOne, Bool.and_self, Bool.and_true, Bool.true_and, fillL, beq_self_eq_true, Nat.one_mul, List.drop_nil, resE, tupled, List.map_nil, List.map_cons, Option.map_some, ↓reduceIte, Nat.reduceEqDiff, Int.reduceEq, Int.reduceLT, Int.reduceLE, Nat.reduceAdd, Nat.reduceMul, Nat.reduceLT, Nat.reduceLeDiff, reduceCtorEq, List.length_nil, List.length_cons, Nat.add_zero, Nat.sub_zero, List.nil_append, List.cons_append, List.getElem?_cons_zero, List.getElem?_cons_succ, List.set_cons_zero, List.set_cons_succ, E4, qa, List.append_nil, ends_mark (j3 _), j4]
  have hu : unown (.sl 2 (s.length + 1) (encs putA s ++ [.int .i64 at', .int .u64 x0]) (.own Hb.length)) = slvR 2 putA (s ++ [(at', x0)]) := by
    rw [← e1]
    have hne : (s ++ [(at', x0)]).isEmpty = false := by cases s <;> rfl
    unfold slvR
    rw [hne, List.length_append]
    rfl
  have hw := hf_resP (s ++ [(at', x0)], 0)
  dsimp only at hw
  have hp : ∀ v' H', purify (some (.ret (.tup [v', .int .i64 0]), H')) = if (unownT (.tup [v', .int .i64 0])).hf then some (.plain (unownT (.tup [v', .int .i64 0]))) else none := fun _ _ => rfl
  rw [hp]
  have he : unownT (.tup [.sl 2 (s.length + 1) (encs putA s ++ [.int .i64 at', .int .u64 x0]) (.own Hb.length), .int .i64 0]) = resP (s ++ [(at', x0)], 0) := by
    show AV.tup [unown _, _] = _
    rw [hu]; rfl
  rw [he, if_pos (by exact hw)]
def storesR (at' n : Int) (s : ByteArray) : List (Int × Int) × Int := if recOk n s then (storesM at' (wordsM n s), 0) else ([], 250)
theorem stores_px (at' n : Int) (s : ByteArray) (H : Heap) (h0 : 0 ≤ at') (h1 : at' ≤ 1000) : pcx (cbL tab) 23 [.int .i64 at', recV n s] H = some (.plain (resP (storesR at' n s))) := by
  refine pcx_N rfl (pc_wp (fi := c23) rfl rfl (by simp [c23]) (by decide) ?_)
  unfold c23
  rw [List.map_cons, List.map_cons, List.map_nil, lend_recV, recV, lend_int]
  have w1 := fun H => words_px n s H
  simp only [recV] at w1
  have wR : wordsR n s = if recOk n s then (wordsM n s, 0) else ([], 250) := rfl
  unfold storesR
  by_cases hk : recOk n s
  case neg =>
    have sv : slvR 1 u64A [] = .sl 0 0 [] .z := rfl
    have sv2 : slvR 2 putA [] = .sl 0 0 [] .z := rfl
    simp (disch := omega) only [wk1, wk2, wk3, wk4, wk5, wk6, avalE, aactE, evPE, boundE, asNat, Nat.zero_mul, Int.tdiv_eq_ediv_of_nonneg, Int.tmod_eq_emod_of_nonneg, List.length_append, Nat.mul_one, bv_seql cellsEq_ii, bv_sneqd cellsEq_ii, Bool.not_false, Bool.not_true, decide_eq_true_eq, Bool.not_eq_true, eq_self, ne_eq, and_true, true_and, and_self, not_true_eq_false, not_false_eq_true, if_true, if_false, decide_true, decide_false, Int.toNat_natCast, Int.natCast_nonneg, List.drop_zero, List.take_zero, List.take_succ_cons, List.drop_succ_cons, readC, allOne, Bool.and_self, Bool.and_true, Bool.true_and, fillL, beq_self_eq_true, Nat.one_mul, List.drop_nil, resE, tupled, List.map_nil, List.map_cons, Option.map_some, ↓reduceIte, Nat.reduceEqDiff, Int.reduceEq, Int.reduceLT, Int.reduceLE, Nat.reduceAdd, Nat.reduceMul, Nat.reduceLT, Nat.reduceLeDiff, reduceCtorEq, List.length_nil, List.length_cons, Nat.add_zero, Nat.sub_zero, List.nil_append, List.cons_append, List.getElem?_cons_zero, List.getElem?_cons_succ, List.set_cons_zero, List.set_cons_succ, w1, wR, hk, resW, sv, resP, sv2, purify, unownT, unown, AV.hf, hfL, Tk.hf]
  have sv := slvR_words hk
  have h16 := wordsM_len (n := n) (nameM_size hk.2.2)
  obtain ⟨x0, tl, hx⟩ : ∃ x0 tl, wordsM n s = x0 :: tl := ⟨_, _, wordsM_cons n s⟩
  have ht : tl.length = 15 := by rw [hx] at h16; simpa using h16
  have a0 := fun H => all_ic tl [] .ro H
  simp only [List.append_nil, ht] at a0
  rw [hx] at sv wR ⊢
  simp only [encs_cons, u64A, List.cons_append, List.nil_append] at sv
  have sm : storesM at' (x0 :: tl) = stF at' 0 tl ++ [(at', x0)] := rfl
  have i1 : (1 : Int).toNat = 1 := rfl
  have l15 : 15 ≤ (encs u64A tl).length := by rw [lenU]; omega
  have i15 : 16 - 1 = 15 := rfl
  have i16 : 1 ≤ 16 := by decide
  simp (disch := omega) only [wk1, wk2, wk3, wk4, wk5, wk6, avalE, aactE, evPE, boundE, asNat, Nat.zero_mul, Int.tdiv_eq_ediv_of_nonneg, Int.tmod_eq_emod_of_nonneg, List.length_append, Nat.mul_one, bv_seql cellsEq_ii, bv_sneqd cellsEq_ii, Bool.not_false, Bool.not_true, decide_eq_true_eq, Bool.not_eq_true, eq_self, ne_eq, and_true, true_and, and_self, not_true_eq_false, not_false_eq_true, if_true, if_false, decide_true, decide_false, Int.toNat_natCast, Int.natCast_nonneg, List.drop_zero, List.take_zero, List.take_succ_cons, List.drop_succ_cons, readC, allOne, Bool.and_self, Bool.and_true, Bool.true_and, fillL, beq_self_eq_true, Nat.one_mul, List.drop_nil, resE, tupled, List.map_nil, List.map_cons, Option.map_some, ↓reduceIte, Nat.reduceEqDiff, Int.reduceEq, Int.reduceLT, Int.reduceLE, Nat.reduceAdd, Nat.reduceMul, Nat.reduceLT, Nat.reduceLeDiff, reduceCtorEq, List.length_nil, List.length_cons, Nat.add_zero, Nat.sub_zero, List.nil_append, List.cons_append, List.getElem?_cons_zero, List.getElem?_cons_succ, List.set_cons_zero, List.set_cons_succ, w1, wR, hk, resW, sv, i1, i15, i16, l15, (a0 _).1, (a0 _).2, runE_none lall, sm]
  refine ret_range (f := 91) (caps := [.ptr 3 0]) (by simp only [upd_app, updD_some, updD_none, ↓reduceIte, Nat.reduceEqDiff, if_true, if_false, List.length_append, List.length_cons, List.length_nil, Nat.zero_add, Nat.add_zero, cast_succ, argE_zero, argE_succ, evE_t]) (fun tm ha => ?_)
  obtain ⟨o, H2, k1, rfl, k2⟩ := all_run ha (by simp only [upd_app, updD_some, updD_none, ↓reduceIte, Nat.reduceEqDiff, if_true, if_false, List.length_append, List.length_cons, List.length_nil, Nat.zero_add, Nat.add_zero, cast_succ, argE_zero, argE_succ]) (by simp only [upd_app, updD_some, updD_none, ↓reduceIte, Nat.reduceEqDiff, if_true, if_false, List.length_append, List.length_cons, List.length_nil, Nat.zero_add, Nat.add_zero, cast_succ, argE_zero, argE_succ]) h0 h1 tl [] .ro [.cells [.int .i64 at'], .cells [.int .i64 n, .str s], .cells [.sl 0 0 [] .z], .cells [.sl 1 tl.length (encs u64A tl ++ []) .ro], .defd, .loop 0 .normal tm [20, 21] stAs stBd] (by omega) ⟨_, rfl, .inl ⟨.inl rfl, rfl, rfl⟩, (by intro a b c e; cases e), rfl, rfl, rfl, rfl⟩
  have k3 := k2
  obtain ⟨_, _, _, _, _, _, _, k3⟩ := k3
  simp only [List.append_nil, ht] at k1
  exact ⟨_, H2, _, _, _, _, _, _, k1, readLoop_of k3, by decide, rfl, st_end (x0 := x0) (tl := tl) (by simp only [upd_app, updD_some, updD_none, ↓reduceIte, Nat.reduceEqDiff, if_true, if_false, List.length_append, List.length_cons, List.length_nil, Nat.zero_add, Nat.add_zero, cast_succ, argE_zero, argE_succ]) (by simp only [upd_app, updD_some, updD_none, ↓reduceIte, Nat.reduceEqDiff, if_true, if_false, List.length_append, List.length_cons, List.length_nil, Nat.zero_add, Nat.add_zero, cast_succ, argE_zero, argE_succ]) (by simp only [upd_app, updD_some, updD_none, ↓reduceIte, Nat.reduceEqDiff, if_true, if_false, List.length_append, List.length_cons, List.length_nil, Nat.zero_add, Nat.add_zero, cast_succ, argE_zero, argE_succ]) (by rw [stF_len]; omega) (by intro s e; cases e) k2⟩
end Go.Proofs.Ytncmflmjlocgiaa
