/- THE WALKS OF slices.IndexFunc, ContainsFunc, DeleteFunc, AND OF Parts. No condition but those stated. -/
import Derived.Test.YtmogflndepihnaaDoorK2
set_option linter.unusedSimpArgs false
set_option linter.unusedVariables false
set_option linter.unusedSectionVars false
namespace Go.Proofs.YtmogflndepihnaaDoor
open Go Go.Am Go.Rec Go.Nam
set_option maxHeartbeats 4000000
set_option maxRecDepth 10000
theorem split_ic (l : List UInt8) (hn : l.length ≤ 5000) (H : Heap) :
    (cbL tab).ic 57 [.str (bs l), .str slB] H = some (.ret (.msl 1 H.length 0 (splS [] l).length), H ++ [.cells (encs strA (splS [] l))]) := by
  have key : ∃ o H', (cbL tab).ic 57 [.str (bs l), .str slB] H = some (o, H') ∧ o = .ret (.msl 1 H.length 0 (splS [] l).length) ∧ H' = H ++ [.cells (encs strA (splS [] l))] := by
    refine ic_wp (fi := c57) rfl rfl (by simp [c57]) (by decide) ?_
    unfold c57
    have g0 : pcx (cbL tab) 83 [.str (bs l), .str slB, .int .i64 0, .int .i64 (-(0 + 1))] H = none := pcx_none rfl (pc_none (fi := c83) rfl rfl)
    have gl : (cbL tab).lent 83 = false := rfl
    have g1 := genSplit_ic l hn H
    simp (disch := omega) only [wk, avalE, aactE, evPE, boundE, asNat, bv_seql cellsEq_ii, bv_sneqd cellsEq_ii, readC, allOne, fillL, resE, tupled, ↓reduceIte, Nat.reduceEqDiff, Int.reduceEq, Int.reduceLT, Int.reduceLE, Nat.reduceAdd, Nat.reduceMul, Nat.reduceLT, Nat.reduceLeDiff, reduceCtorEq, g0, runE_none gl, g1]
  obtain ⟨o, H', h, rfl, rfl⟩ := key
  exact h
theorem emptyF_px (x : List UInt8) (H : Heap) : pcx (cbL tab) 58 [.str (bs x)] H = some (.plain (.bool x.isEmpty)) := by
  refine pcx_N rfl (pc_wp (fi := c58) rfl rfl (by simp [c58]) (by decide) ?_)
  unfold c58
  rw [List.map_cons, List.map_nil, lend_str]
  have e : (x == []) = x.isEmpty := by cases x <;> rfl
  simp (disch := omega) only [wk, avalE, aactE, evPE, boundE, asNat, bv_seql cellsEq_ii, bv_sneqd cellsEq_ii, readC, allOne, fillL, resE, tupled, ↓reduceIte, Nat.reduceEqDiff, Int.reduceEq, Int.reduceLT, Int.reduceLE, Nat.reduceAdd, Nat.reduceMul, Nat.reduceLT, Nat.reduceLeDiff, reduceCtorEq, bv_streq, k0, bs_toList, e, purify, unownT, AV.hf]
theorem wideF_px (x : List UInt8) (H : Heap) : pcx (cbL tab) 60 [.str (bs x)] H = some (.plain (.bool (decide (120 < x.length)))) := by
  refine pcx_N rfl (pc_wp (fi := c60) rfl rfl (by simp [c60]) (by decide) ?_)
  unfold c60
  rw [List.map_cons, List.map_nil, lend_str]
  have e : decide ((120 : Int) < (x.length : Nat)) = decide (120 < x.length) := by congr 1; simp only [eq_iff_iff]; omega
  simp (disch := omega) only [wk, avalE, aactE, evPE, boundE, asNat, bv_seql cellsEq_ii, bv_sneqd cellsEq_ii, readC, allOne, fillL, resE, tupled, ↓reduceIte, Nat.reduceEqDiff, Int.reduceEq, Int.reduceLT, Int.reduceLE, Nat.reduceAdd, Nat.reduceMul, Nat.reduceLT, Nat.reduceLeDiff, reduceCtorEq, bs_size, e, purify, unownT, AV.hf]
/-- Where the first such text is. -/
def idxP (p : List UInt8 → Bool) : List (List UInt8) → Nat → Int
  | [], _ => -(0 + 1)
  | x :: r, i => if p x then (i : Nat) else idxP p r (i + 1)
theorem indexF_pc (f : FuncId) (p : List UInt8 → Bool) (hf : ∀ x H, pcx (cbL tab) f [.str (bs x)] H = some (.plain (.bool (p x)))) (a : List (List UInt8)) (ha : a.length ≤ 10000) (s : Nat) (hs : a ≠ [] → s = 1) (k : Tk) (hk : k.hf = true) :
    (cbL tab).pc 82 [.sl s a.length (encs strA a) k, .fn f []] = some (.plain (.int .i64 (idxP p a 0))) := by
  obtain ⟨u1, e1, f1⟩ := lend_sl s a.length (encs strA a) k
  have e2 : lend (.fn f []) = .fn f [] := rfl
  refine pc_wp (fi := c82) rfl ?_ (by simp [c82]) (by decide) ?_
  · simp only [pcOn, List.map_cons, List.map_nil, hfL, hf_lend_sl, hf_lend_int, hf_lend_bool, hf_lend_str, hfL_append, Bool.and_self, Bool.and_true, Bool.true_and, c82, hf_strA, AV.hf, hk, e2]
  unfold c82
  rw [List.map_cons, List.map_cons, List.map_nil, e1, e2]
  simp (disch := omega) only [wk, avalE, aactE, evPE, boundE, asNat, bv_seql cellsEq_ii, bv_sneqd cellsEq_ii, readC, allOne, fillL, resE, tupled, ↓reduceIte, Nat.reduceEqDiff, Int.reduceEq, Int.reduceLT, Int.reduceLE, Nat.reduceAdd, Nat.reduceMul, Nat.reduceLT, Nat.reduceLeDiff, reduceCtorEq]
  refine loop_ind (fun (x : List (List UInt8) × List (List UInt8)) E df H => a = x.1 ++ x.2 ∧ idxP p a 0 = idxP p x.2 x.1.length ∧ E 0 = .sl s a.length (encs strA a) u1 ∧ E 1 = .fn f [] ∧ E 7 = .int .i64 (a.length : Nat) ∧ E 8 = .int .i64 (x.1.length : Nat) ∧ df = [] ∧ H = [])
    (fun x => x.2.length) ([], a) (by decide) (.inl rfl) ⟨rfl, rfl, rfl, rfl, rfl, rfl, rfl, rfl⟩ ?_
  intro ⟨pre, suf⟩ E df H ih hP
  obtain ⟨a1, a2, E0, E1, E7, E8, hdf, hH⟩ := hP
  dsimp only at a1 a2 E8
  subst hdf hH
  have la : a.length = pre.length + suf.length := by rw [a1, List.length_append]
  cases suf with
  | nil =>
    have n1 : ¬ ((pre.length : Nat) : Int) < (a.length : Nat) := by rw [la]; simp
    simp (disch := omega) only [wk, avalE, aactE, evPE, boundE, asNat, bv_seql cellsEq_ii, bv_sneqd cellsEq_ii, readC, allOne, fillL, resE, tupled, ↓reduceIte, Nat.reduceEqDiff, Int.reduceEq, Int.reduceLT, Int.reduceLE, Nat.reduceAdd, Nat.reduceMul, Nat.reduceLT, Nat.reduceLeDiff, reduceCtorEq, E0, E1, E7, E8, n1, a2, idxP, purify, unownT, AV.hf]
  | cons x r =>
    have hs1 := hs (by rw [a1]; simp)
    subst hs1
    have n1 : ((pre.length : Nat) : Int) < (a.length : Nat) := by rw [la]; simp; omega
    have d1 : List.drop pre.length (encs strA a) = .str (bs x) :: encs strA r := by
      have := drop_pre (f := strA) pre (x :: r)
      rw [Nat.mul_one] at this
      rw [a1, this]; rfl
    have hx := hf x
    cases hp : p x with
    | true =>
      rw [hp] at hx
      have : idxP p (x :: r) pre.length = (pre.length : Nat) := by rw [idxP, if_pos hp]
      simp (disch := omega) only [wk, avalE, aactE, evPE, boundE, asNat, bv_seql cellsEq_ii, bv_sneqd cellsEq_ii, readC, allOne, fillL, resE, tupled, ↓reduceIte, Nat.reduceEqDiff, Int.reduceEq, Int.reduceLT, Int.reduceLE, Nat.reduceAdd, Nat.reduceMul, Nat.reduceLT, Nat.reduceLeDiff, reduceCtorEq, E0, E1, E7, E8, n1, d1, hx, a2, this, purify, unownT, AV.hf]
    | false =>
      rw [hp] at hx
      have : idxP p (x :: r) pre.length = idxP p r (pre.length + 1) := by rw [idxP, if_neg (by rw [hp]; decide)]
      simp (disch := omega) only [wk, avalE, aactE, evPE, boundE, asNat, bv_seql cellsEq_ii, bv_sneqd cellsEq_ii, readC, allOne, fillL, resE, tupled, ↓reduceIte, Nat.reduceEqDiff, Int.reduceEq, Int.reduceLT, Int.reduceLE, Nat.reduceAdd, Nat.reduceMul, Nat.reduceLT, Nat.reduceLeDiff, reduceCtorEq, E0, E1, E7, E8, n1, d1, hx]
      refine ih (pre ++ [x], r) _ _ _ (by simp) ?_
      exact ⟨by simp [a1], by rw [a2, this]; simp, by simp only [en, ↓reduceIte, Nat.reduceEqDiff, E0], by simp only [en, ↓reduceIte, Nat.reduceEqDiff, E1], by simp only [en, ↓reduceIte, Nat.reduceEqDiff, E7], by simp only [en, ↓reduceIte, Nat.reduceEqDiff], rfl, rfl⟩
theorem idxP_any (p : List UInt8 → Bool) : ∀ (a : List (List UInt8)) (i : Nat), decide (0 ≤ idxP p a i) = a.any p
  | [], i => rfl
  | x :: r, i => by
    rw [idxP, List.any_cons]
    cases p x with
    | true => simp
    | false => simp [idxP_any p r (i + 1)]
theorem containsF_pc (f : FuncId) (p : List UInt8 → Bool) (hf : ∀ x H, pcx (cbL tab) f [.str (bs x)] H = some (.plain (.bool (p x)))) (a : List (List UInt8)) (ha : a.length ≤ 10000) (s : Nat) (hs : a ≠ [] → s = 1) (k : Tk) (hk : k.hf = true) :
    (cbL tab).pc 59 [.sl s a.length (encs strA a) k, .fn f []] = some (.plain (.bool (a.any p))) := by
  obtain ⟨u1, e1, f1⟩ := lend_sl s a.length (encs strA a) k
  have e2 : lend (.fn f []) = .fn f [] := rfl
  refine pc_wp (fi := c59) rfl ?_ (by simp [c59]) (by decide) ?_
  · simp only [pcOn, List.map_cons, List.map_nil, hfL, hf_lend_sl, hf_lend_int, hf_lend_bool, hf_lend_str, hfL_append, Bool.and_self, Bool.and_true, Bool.true_and, c59, hf_strA, AV.hf, hk, e2]
  unfold c59
  rw [List.map_cons, List.map_cons, List.map_nil, e1, e2]
  have ix : ∀ H, pcx (cbL tab) 82 [.sl s a.length (encs strA a) u1, .fn f []] H = some (.plain (.int .i64 (idxP p a 0))) := fun H =>
    pcx_L rfl (by simp [lendK_sl]; rfl) (indexF_pc f p hf a ha s hs u1 f1) rfl
  have e := idxP_any p a 0
  simp (disch := omega) only [wk, avalE, aactE, evPE, boundE, asNat, bv_seql cellsEq_ii, bv_sneqd cellsEq_ii, readC, allOne, fillL, resE, tupled, ↓reduceIte, Nat.reduceEqDiff, Int.reduceEq, Int.reduceLT, Int.reduceLE, Nat.reduceAdd, Nat.reduceMul, Nat.reduceLT, Nat.reduceLeDiff, reduceCtorEq, ix, e, purify, unownT, AV.hf]
theorem lendS (H : Heap) (k : Nat) (w : List (List UInt8)) : (encs strA w).map (lendK H k) = encs strA w := by
  induction w with
  | nil => rfl
  | cons x r ih =>
    have : lendK H k (.str (bs x)) = .str (bs x) := by cases k <;> rfl
    rw [encs_cons, List.map_append, ih, strA, List.map_cons, List.map_nil, this]
theorem lend_mslS {H : Heap} {id : Nat} {l rest : List (List UInt8)} (h : H[id]? = some (.cells (encs strA (l ++ rest)))) : lendK H 4 (.msl 1 id 0 l.length) = .sl 1 l.length (encs strA l) .ro := by
  have e : ((encs strA (l ++ rest)).drop 0).take l.length = encs strA l := by
    rw [List.drop_zero, encs_append, List.take_append_of_le_length (by rw [lenS]; exact Nat.le_refl _), List.take_of_length_le (by rw [lenS]; exact Nat.le_refl _)]
  show (match H[id]? with
      | some (AObj.cells cs) => if 0 + l.length * 1 ≤ cs.length then AV.sl 1 l.length (((cs.drop 0).take (l.length * 1)).map (lendK H 3)) .ro else AV.msl 1 id 0 l.length
      | _ => AV.msl 1 id 0 l.length) = _
  rw [h]
  simp only
  rw [if_pos (by rw [lenS, List.length_append]; omega), Nat.mul_one, e, lendS]
end Go.Proofs.YtmogflndepihnaaDoor
