/- THE WALKS OF A NODE'S WORDS, THE PROGRAM'S AND THE DOCUMENT'S. No condition but those stated. -/
import Derived.Test.YtailfegmnkldoaaN7
set_option linter.unusedSimpArgs false
set_option linter.unusedVariables false
set_option linter.unusedSectionVars false
namespace Go.Proofs.Ytailfegmnkldoaa
open Go Go.Am Go.Slots Go.Nod
set_option maxHeartbeats 8000000
set_option maxRecDepth 10000
/-- The pairs of a row that is filled up with noughts. -/
def fillP (ps : List (Int × Int)) : List (Int × Int) := ps ++ List.replicate (28 - ps.length) (0, 0)
theorem fillP_len {ps : List (Int × Int)} (h : ps.length ≤ 28) : (fillP ps).length = 28 := by simp [fillP]; omega
/-- The head of a node. -/
def hdN (v s l f y : Int) : Hd := ⟨nmark + v, s, l, f, y, 0, 0, 0⟩
def ndC (v s l f y : Int) (q : AV) : List AV := [.int .i64 v, .int .i64 s, .int .u64 l, .int .u64 f, .int .i64 y, q]
theorem lend_ndC (v s l f y : Int) (z n : Nat) (cs : List AV) : lend (.agg (ndC v s l f y (.sl z n cs .ro))) = .agg (ndC v s l f y (.sl z n cs .ro)) := rfl
theorem hf_ndC {v s l f y : Int} {z n : Nat} {cs : List AV} (h : hfL cs = true) : (AV.agg (ndC v s l f y (.sl z n cs .ro))).hf = true := by
  simp [ndC, AV.hf, hfL, h, Tk.hf]
theorem z64 : repL 64 [.int .u64 0] = .int .u64 0 :: .int .u64 0 :: .int .u64 0 :: .int .u64 0 :: .int .u64 0 :: .int .u64 0 :: .int .u64 0 :: .int .u64 0 :: encs pairA (List.replicate 28 (0, 0)) := rfl
theorem mk64 : madeN 1 8 [.int .u64 0] (.int .i64 64) (.int .i64 64) = some 64 := rfl
section
variable (v s l f y : Int) (z n : Nat) (cs : List AV) (hc : hfL cs = true) (H : Heap)
include hc
theorem ofm_px (h0 : 0 ≤ v) (h1 : v ≤ 12) : pcx (cbL tab) 98 [.agg (ndC v s l f y (.sl z n cs .ro))] H = some (.plain (.int .u64 (7522529147838689024 + v))) := by
  refine pcx_N rfl (pc_wp (fi := c98) rfl ?_ (by simp [c98]) (by decide) ?_)
  · simp only [pcOn, c98, List.map_cons, List.map_nil, lend_ndC, hfL, hf_ndC hc, Bool.true_and]
  unfold c98
  rw [List.map_cons, List.map_nil, lend_ndC, ndC]
  simp (disch := omega) only [wk, avalE, aactE, evPE, boundE, asNat, bv_seql cellsEq_ii, bv_sneqd cellsEq_ii, readC, allOne, fillL, resE, tupled, ↓reduceIte, Nat.reduceEqDiff, Int.reduceEq, Int.reduceLT, Int.reduceLE, Nat.reduceAdd, Nat.reduceMul, Nat.reduceLT, Nat.reduceLeDiff, reduceCtorEq, purify, unownT, lend, unown, AV.hf]
theorem ofs_px (h0 : 0 ≤ s) (h1 : s ≤ 2047) : pcx (cbL tab) 101 [.agg (ndC v s l f y (.sl z n cs .ro))] H = some (.plain (.int .u64 s)) := by
  refine pcx_N rfl (pc_wp (fi := c101) rfl ?_ (by simp [c101]) (by decide) ?_)
  · simp only [pcOn, c101, List.map_cons, List.map_nil, lend_ndC, hfL, hf_ndC hc, Bool.true_and]
  unfold c101
  rw [List.map_cons, List.map_nil, lend_ndC, ndC]
  simp (disch := omega) only [wk, avalE, aactE, evPE, boundE, asNat, bv_seql cellsEq_ii, bv_sneqd cellsEq_ii, readC, allOne, fillL, resE, tupled, ↓reduceIte, Nat.reduceEqDiff, Int.reduceEq, Int.reduceLT, Int.reduceLE, Nat.reduceAdd, Nat.reduceMul, Nat.reduceLT, Nat.reduceLeDiff, reduceCtorEq, purify, unownT, lend, unown, AV.hf]
theorem ofl_px : pcx (cbL tab) 104 [.agg (ndC v s l f y (.sl z n cs .ro))] H = some (.plain (.int .u64 l)) := by
  refine pcx_N rfl (pc_wp (fi := c104) rfl ?_ (by simp [c104]) (by decide) ?_)
  · simp only [pcOn, c104, List.map_cons, List.map_nil, lend_ndC, hfL, hf_ndC hc, Bool.true_and]
  unfold c104
  rw [List.map_cons, List.map_nil, lend_ndC, ndC]
  simp (disch := omega) only [wk, avalE, aactE, evPE, boundE, asNat, bv_seql cellsEq_ii, bv_sneqd cellsEq_ii, readC, allOne, fillL, resE, tupled, ↓reduceIte, Nat.reduceEqDiff, Int.reduceEq, Int.reduceLT, Int.reduceLE, Nat.reduceAdd, Nat.reduceMul, Nat.reduceLT, Nat.reduceLeDiff, reduceCtorEq, purify, unownT, lend, unown, AV.hf]
theorem off_px : pcx (cbL tab) 108 [.agg (ndC v s l f y (.sl z n cs .ro))] H = some (.plain (.int .u64 f)) := by
  refine pcx_N rfl (pc_wp (fi := c108) rfl ?_ (by simp [c108]) (by decide) ?_)
  · simp only [pcOn, c108, List.map_cons, List.map_nil, lend_ndC, hfL, hf_ndC hc, Bool.true_and]
  unfold c108
  rw [List.map_cons, List.map_nil, lend_ndC, ndC]
  simp (disch := omega) only [wk, avalE, aactE, evPE, boundE, asNat, bv_seql cellsEq_ii, bv_sneqd cellsEq_ii, readC, allOne, fillL, resE, tupled, ↓reduceIte, Nat.reduceEqDiff, Int.reduceEq, Int.reduceLT, Int.reduceLE, Nat.reduceAdd, Nat.reduceMul, Nat.reduceLT, Nat.reduceLeDiff, reduceCtorEq, purify, unownT, lend, unown, AV.hf]
theorem ofy_px (h0 : 0 ≤ y) (h1 : y ≤ 2) : pcx (cbL tab) 111 [.agg (ndC v s l f y (.sl z n cs .ro))] H = some (.plain (.int .u64 y)) := by
  refine pcx_N rfl (pc_wp (fi := c111) rfl ?_ (by simp [c111]) (by decide) ?_)
  · simp only [pcOn, c111, List.map_cons, List.map_nil, lend_ndC, hfL, hf_ndC hc, Bool.true_and]
  unfold c111
  rw [List.map_cons, List.map_nil, lend_ndC, ndC]
  simp (disch := omega) only [wk, avalE, aactE, evPE, boundE, asNat, bv_seql cellsEq_ii, bv_sneqd cellsEq_ii, readC, allOne, fillL, resE, tupled, ↓reduceIte, Nat.reduceEqDiff, Int.reduceEq, Int.reduceLT, Int.reduceLE, Nat.reduceAdd, Nat.reduceMul, Nat.reduceLT, Nat.reduceLeDiff, reduceCtorEq, purify, unownT, lend, unown, AV.hf]
end
/-- The words while pairs are laid. -/
def layW (h : List AV) (pre suf : List (Int × Int)) : List AV := h ++ encs pairA (pre ++ suf)
theorem layW_key {h : List AV} (hh : h.length = 8) (pre : List (Int × Int)) (x : Int × Int) (r : List (Int × Int)) (k : Int) :
    List.take (8 + 2 * pre.length) (layW h pre (x :: r)) ++ [.int .u64 k] ++ List.drop (8 + 2 * pre.length + 1) (layW h pre (x :: r)) = layW h pre ((k, x.2) :: r) := by
  have e1 : layW h pre (x :: r) = (h ++ encs pairA pre) ++ (.int .u64 x.1 :: .int .u64 x.2 :: encs pairA r) := by rw [layW, encs_append, encs_cons, List.append_assoc]; rfl
  have e2 : (h ++ encs pairA pre).length = 8 + 2 * pre.length := by rw [List.length_append, hh, encs_length (f := pairA) (k := 2)]; omega
  rw [e1, List.take_left' e2, List.drop_append, e2, List.drop_of_length_le (by omega)]
  rw [layW, encs_append, encs_cons, show 8 + 2 * pre.length + 1 - (8 + 2 * pre.length) = 1 by omega]
  simp [pairA]
theorem layW_ptr {h : List AV} (hh : h.length = 8) (pre : List (Int × Int)) (x : Int × Int) (r : List (Int × Int)) (k : Int) :
    List.take (8 + 2 * pre.length + 1) (layW h pre (x :: r)) ++ [.int .u64 k] ++ List.drop (8 + 2 * pre.length + 1 + 1) (layW h pre (x :: r)) = layW h pre ((x.1, k) :: r) := by
  have e1 : layW h pre (x :: r) = (h ++ encs pairA pre ++ [.int .u64 x.1]) ++ (.int .u64 x.2 :: encs pairA r) := by rw [layW, encs_append, encs_cons, List.append_assoc, List.append_assoc]; rfl
  have e2 : (h ++ encs pairA pre ++ [AV.int .u64 x.1]).length = 8 + 2 * pre.length + 1 := by rw [List.length_append, List.length_append, hh, encs_length (f := pairA) (k := 2), List.length_singleton]; omega
  rw [e1, List.take_left' e2, List.drop_append, e2, List.drop_of_length_le (by omega)]
  rw [layW, encs_append, encs_cons, show 8 + 2 * pre.length + 1 + 1 - (8 + 2 * pre.length + 1) = 1 by omega]
  simp [pairA]
theorem layW_len {h : List AV} (hh : h.length = 8) (l : List (Int × Int)) (pre suf : List (Int × Int)) (e : l = pre ++ suf) : (layW h pre suf).length = 8 + 2 * l.length := by
  rw [layW, ← e, List.length_append, hh, encs_length (f := pairA) (k := 2)]; omega
theorem laid_px (v s l f y : Int) (ps : List (Int × Int)) (z : Nat) (hz : ps ≠ [] → z = 2) (hl : ps.length ≤ 28) (hv : 0 ≤ v ∧ v ≤ 12) (hs : 0 ≤ s ∧ s ≤ 2047) (hy : 0 ≤ y ∧ y ≤ 2) (H : Heap) :
    pcx (cbL tab) 59 [.agg (ndC v s l f y (.sl z ps.length (encs pairA ps) .ro))] H = some (.plain (.sl 1 64 (wordsA (hdN v s l f y) (fillP ps) []) .ro)) := by
  have hc := hf_pairA ps
  refine pcx_N rfl (pc_wp (fi := c59) rfl ?_ (by simp [c59]) (by decide) ?_)
  · simp only [pcOn, c59, List.map_cons, List.map_nil, lend_ndC, hfL, hf_ndC hc, Bool.true_and]
  unfold c59
  rw [List.map_cons, List.map_nil, lend_ndC, ndC]
  have pp := parts_px
  have m1 := fun H => ofm_px v s l f y z ps.length (encs pairA ps) hc H hv.1 hv.2
  have m2 := fun H => ofs_px v s l f y z ps.length (encs pairA ps) hc H hs.1 hs.2
  have m3 := fun H => ofl_px v s l f y z ps.length (encs pairA ps) hc H
  have m4 := fun H => off_px v s l f y z ps.length (encs pairA ps) hc H
  have m5 := fun H => ofy_px v s l f y z ps.length (encs pairA ps) hc H hy.1 hy.2
  simp only [ndC] at m1 m2 m3 m4 m5
  have le28 : (encs pairA (List.replicate 28 ((0 : Int), (0 : Int)))).length = 56 := by rw [encs_length (f := pairA) (k := 2)]; simp
  have al : allOne (encs pairA (List.replicate 28 ((0 : Int), (0 : Int)))) = true := allOne_encs (fun _ => rfl) _
  simp (disch := omega) only [wk, avalE, aactE, evPE, boundE, asNat, bv_seql cellsEq_ii, bv_sneqd cellsEq_ii, readC, allOne, fillL, resE, tupled, ↓reduceIte, Nat.reduceEqDiff, Int.reduceEq, Int.reduceLT, Int.reduceLE, Nat.reduceAdd, Nat.reduceMul, Nat.reduceLT, Nat.reduceLeDiff, reduceCtorEq, pp, mk64, z64]
  generalize hZ : encs pairA (List.replicate 28 ((0 : Int), (0 : Int))) = Z at *
  rw [ret_loop]
  simp (disch := omega) only [wk, avalE, aactE, evPE, boundE, asNat, bv_seql cellsEq_ii, bv_sneqd cellsEq_ii, readC, allOne, fillL, resE, tupled, ↓reduceIte, Nat.reduceEqDiff, Int.reduceEq, Int.reduceLT, Int.reduceLE, Nat.reduceAdd, Nat.reduceMul, Nat.reduceLT, Nat.reduceLeDiff, reduceCtorEq, partsA, Int.reduceToNat, Int.reduceAdd, Int.reduceSub, Int.reduceMul, Int.reduceNeg, Nat.reduceSub, Nat.reduceDiv, m1, le28]
  refine ret_again (by decide) (.inl rfl) ?_
  rw [ret_loop]
  simp (disch := omega) only [wk, avalE, aactE, evPE, boundE, asNat, bv_seql cellsEq_ii, bv_sneqd cellsEq_ii, readC, allOne, fillL, resE, tupled, ↓reduceIte, Nat.reduceEqDiff, Int.reduceEq, Int.reduceLT, Int.reduceLE, Nat.reduceAdd, Nat.reduceMul, Nat.reduceLT, Nat.reduceLeDiff, reduceCtorEq, partsA, Int.reduceToNat, Int.reduceAdd, Int.reduceSub, Int.reduceMul, Int.reduceNeg, Nat.reduceSub, Nat.reduceDiv, m2, le28]
  refine ret_again (by decide) (.inl rfl) ?_
  rw [ret_loop]
  simp (disch := omega) only [wk, avalE, aactE, evPE, boundE, asNat, bv_seql cellsEq_ii, bv_sneqd cellsEq_ii, readC, allOne, fillL, resE, tupled, ↓reduceIte, Nat.reduceEqDiff, Int.reduceEq, Int.reduceLT, Int.reduceLE, Nat.reduceAdd, Nat.reduceMul, Nat.reduceLT, Nat.reduceLeDiff, reduceCtorEq, partsA, Int.reduceToNat, Int.reduceAdd, Int.reduceSub, Int.reduceMul, Int.reduceNeg, Nat.reduceSub, Nat.reduceDiv, m3, le28]
  refine ret_again (by decide) (.inl rfl) ?_
  rw [ret_loop]
  simp (disch := omega) only [wk, avalE, aactE, evPE, boundE, asNat, bv_seql cellsEq_ii, bv_sneqd cellsEq_ii, readC, allOne, fillL, resE, tupled, ↓reduceIte, Nat.reduceEqDiff, Int.reduceEq, Int.reduceLT, Int.reduceLE, Nat.reduceAdd, Nat.reduceMul, Nat.reduceLT, Nat.reduceLeDiff, reduceCtorEq, partsA, Int.reduceToNat, Int.reduceAdd, Int.reduceSub, Int.reduceMul, Int.reduceNeg, Nat.reduceSub, Nat.reduceDiv, m4, le28]
  refine ret_again (by decide) (.inl rfl) ?_
  rw [ret_loop]
  simp (disch := omega) only [wk, avalE, aactE, evPE, boundE, asNat, bv_seql cellsEq_ii, bv_sneqd cellsEq_ii, readC, allOne, fillL, resE, tupled, ↓reduceIte, Nat.reduceEqDiff, Int.reduceEq, Int.reduceLT, Int.reduceLE, Nat.reduceAdd, Nat.reduceMul, Nat.reduceLT, Nat.reduceLeDiff, reduceCtorEq, partsA, Int.reduceToNat, Int.reduceAdd, Int.reduceSub, Int.reduceMul, Int.reduceNeg, Nat.reduceSub, Nat.reduceDiv, m5, le28]
  refine ret_again (by decide) (.inl rfl) ?_
  rw [ret_loop]
  simp (disch := omega) only [wk, avalE, aactE, evPE, boundE, asNat, bv_seql cellsEq_ii, bv_sneqd cellsEq_ii, readC, allOne, fillL, resE, tupled, ↓reduceIte, Nat.reduceEqDiff, Int.reduceEq, Int.reduceLT, Int.reduceLE, Nat.reduceAdd, Nat.reduceMul, Nat.reduceLT, Nat.reduceLeDiff, reduceCtorEq, partsA, Int.reduceToNat, Int.reduceAdd, Int.reduceSub, Int.reduceMul, Int.reduceNeg, Nat.reduceSub, Nat.reduceDiv, le28]
  have hh8 : [AV.int .u64 (7522529147838689024 + v), .int .u64 s, .int .u64 l, .int .u64 f, .int .u64 y, .int .u64 0, .int .u64 0, .int .u64 0].length = 8 := rfl
  have hhd : hfL [AV.int .u64 (7522529147838689024 + v), .int .u64 s, .int .u64 l, .int .u64 f, .int .u64 y, .int .u64 0, .int .u64 0, .int .u64 0] = true := rfl
  have fin : wordsA (hdN v s l f y) (fillP ps) [] = layW [AV.int .u64 (7522529147838689024 + v), .int .u64 s, .int .u64 l, .int .u64 f, .int .u64 y, .int .u64 0, .int .u64 0, .int .u64 0] ps (List.replicate (28 - ps.length) (0, 0)) := by
    rw [wordsA, layW, List.append_nil]; rfl
  have ini : [AV.int .u64 (7522529147838689024 + v), .int .u64 s, .int .u64 l, .int .u64 f, .int .u64 y, .int .u64 0, .int .u64 0, .int .u64 0] ++ Z = layW [AV.int .u64 (7522529147838689024 + v), .int .u64 s, .int .u64 l, .int .u64 f, .int .u64 y, .int .u64 0, .int .u64 0, .int .u64 0] [] (List.replicate (28 - 0) (0, 0)) := by
    rw [layW, ← hZ]; rfl
  rw [fin]
  simp only [List.cons_append, List.nil_append] at ini
  rw [ini]
  generalize [AV.int .u64 (7522529147838689024 + v), .int .u64 s, .int .u64 l, .int .u64 f, .int .u64 y, .int .u64 0, .int .u64 0, .int .u64 0] = hd at *
  refine loop_ind (fun (x : List (Int × Int) × List (Int × Int)) E df H1 => ps = x.1 ++ x.2 ∧ E 3 = .msl 1 1 0 64 ∧ E 25 = .sl z ps.length (encs pairA ps) .ro ∧ E 26 = .int .i64 (ps.length : Nat) ∧ E 27 = .int .i64 (x.1.length : Nat) ∧ df = [] ∧ 1 < H1.length ∧ H1[1]? = some (.cells (layW hd x.1 (List.replicate (28 - x.1.length) (0, 0))))) (fun x => x.2.length) ([], ps) (by decide) (.inl rfl) ⟨rfl, rfl, rfl, rfl, rfl, rfl, by simp, rfl⟩ ?_
  intro ⟨pre, suf⟩ E df H1 ih hP
  obtain ⟨a1, E3, E25, E26, E27, hdf, hl1, hh⟩ := hP
  dsimp only at a1 E27 hh
  subst hdf
  have hRl : ps.length = pre.length + suf.length := by rw [a1, List.length_append]
  cases suf with
  | nil =>
    simp only [List.length_nil, Nat.add_zero] at hRl
    rw [List.append_nil] at a1
    rw [hRl] at E26
    have hlen := layW_len hh8 _ ps (List.replicate (28 - ps.length) (0, 0)) rfl
    have hhf : hfL (layW hd ps (List.replicate (28 - ps.length) (0, 0))) = true := by rw [layW, hfL_append, hf_pairA, hhd]; rfl
    subst a1
    simp (disch := omega) only [wk, avalE, aactE, evPE, boundE, asNat, bv_seql cellsEq_ii, bv_sneqd cellsEq_ii, readC, allOne, fillL, resE, tupled, ↓reduceIte, Nat.reduceEqDiff, Int.reduceEq, Int.reduceLT, Int.reduceLE, Nat.reduceAdd, Nat.reduceMul, Nat.reduceLT, Nat.reduceLeDiff, reduceCtorEq, E3, E25, E26, E27]
    simp only [purify, hh]
    have h64 : (layW hd ps (List.replicate (28 - ps.length) (0, 0))).length = 64 := by
      rw [layW, List.length_append, hh8, encs_length (f := pairA) (k := 2), List.length_append, List.length_replicate]; omega
    rw [if_pos ⟨by rw [h64]; omega, hhf⟩, List.drop_zero, List.take_of_length_le (by rw [h64]; omega)]
  | cons x r =>
    simp only [List.length_cons] at hRl
    obtain rfl := hz (by rw [a1]; simp)
    obtain ⟨kk, q⟩ := x
    have dr : List.drop (pre.length * 2) (encs pairA ps) = .int .u64 kk :: .int .u64 q :: encs pairA r := by rw [a1, drop_pre, encs_cons]; rfl
    have g1 : ∀ o : AObj, (H1 ++ [o])[H1.length]? = some o := fun o => by simp
    have g2 : ∀ o : AObj, (H1 ++ [o])[1]? = H1[1]? := fun o => List.getElem?_append_left hl1
    have g3 : ∀ o q : AObj, (H1 ++ [o]).set H1.length q = H1 ++ [q] := fun o q => by simp
    have g4 : ∀ o q : AObj, ((H1 ++ [o]).set 1 q)[1]? = some q := fun o q => List.getElem?_set_self (by simp; omega)
    have g5 : ∀ o q q' : AObj, ((H1 ++ [o]).set 1 q).set 1 q' = (H1 ++ [o]).set 1 q' := fun o q q' => List.set_set ..
    have tn1 : (8 + 2 * (pre.length : Int)).toNat = 8 + 2 * pre.length := by omega
    have tn2 : (8 + 2 * (pre.length : Int) + 1).toNat = 8 + 2 * pre.length + 1 := by omega
    have er : List.replicate (28 - pre.length) ((0 : Int), (0 : Int)) = (0, 0) :: List.replicate (28 - (pre ++ [(kk, q)]).length) (0, 0) := by
      rw [show 28 - pre.length = (28 - (pre ++ [(kk, q)]).length) + 1 by simp; omega]; rfl
    rw [er] at hh
    generalize hR : List.replicate (28 - (pre ++ [(kk, q)]).length) ((0 : Int), (0 : Int)) = R at *
    have w1 := layW_key hh8 pre (0, 0) R kk
    have w2 := layW_ptr hh8 pre (kk, 0) R q
    have hlen1 : (layW hd pre ((0, 0) :: R)).length = 64 := by
      rw [layW, List.length_append, hh8, encs_length (f := pairA) (k := 2), List.length_append, List.length_cons, ← hR]; simp; omega
    have hlen2 : (layW hd pre ((kk, 0) :: R)).length = 64 := by
      rw [layW, List.length_append, hh8, encs_length (f := pairA) (k := 2), List.length_append, List.length_cons, ← hR]; simp; omega
    dsimp only at w1 w2
    have fv : floatV [.ptr H1.length 1] [.ptr 1 (8 + 2 * pre.length)] = true := by
      have : ¬ (1 = H1.length) := by omega
      simp [floatV, offP, this]
    simp (disch := omega) only [wk, avalE, aactE, evPE, boundE, asNat, bv_seql cellsEq_ii, bv_sneqd cellsEq_ii, readC, allOne, fillL, resE, tupled, ↓reduceIte, Nat.reduceEqDiff, Int.reduceEq, Int.reduceLT, Int.reduceLE, Nat.reduceAdd, Nat.reduceMul, Nat.reduceLT, Nat.reduceLeDiff, reduceCtorEq, Nat.zero_add, fv, E3, E25, E26, E27, dr, g1, g2, g3, g4, g5, hh, tn1, tn2, w1, w2, hlen1, hlen2]
    refine ih (pre ++ [(kk, q)], r) _ _ _ (by simp) ?_
    refine ⟨by rw [a1]; simp, by simp only [en, ↓reduceIte, Nat.reduceEqDiff, E3], by simp only [en, ↓reduceIte, Nat.reduceEqDiff, E25], by simp only [en, ↓reduceIte, Nat.reduceEqDiff, E26], by simp only [en, ↓reduceIte, Nat.reduceEqDiff], rfl, by simp; omega, ?_⟩
    have e2 : layW hd pre ((kk, q) :: R) = layW hd (pre ++ [(kk, q)]) R := by simp [layW]
    rw [g4, e2]
    exact congrArg (fun z => some (AObj.cells (layW hd (pre ++ [(kk, q)]) z))) hR.symm
theorem refwords_px (v s l f y : Int) (ps : List (Int × Int)) (z : Nat) (hz : ps ≠ [] → z = 2) (hl : ps.length ≤ 28) (hv : 0 ≤ v ∧ v ≤ 12) (hs : 0 ≤ s ∧ s ≤ 2047) (hy : 0 ≤ y ∧ y ≤ 2) (H : Heap) :
    pcx (cbL tab) 60 [.agg (ndC v s l f y (.sl z ps.length (encs pairA ps) .ro))] H = some (.plain (.sl 1 64 (wordsA (hdN v s l f y) (fillP ps) []) .ro)) := by
  have hc := hf_pairA ps
  refine pcx_N rfl (pc_wp (fi := c60) rfl ?_ (by simp [c60]) (by decide) ?_)
  · simp only [pcOn, c60, List.map_cons, List.map_nil, lend_ndC, hfL, hf_ndC hc, Bool.true_and]
  unfold c60
  rw [List.map_cons, List.map_nil, lend_ndC, ndC]
  have le28 : (encs pairA (List.replicate 28 ((0 : Int), (0 : Int)))).length = 56 := by rw [encs_length (f := pairA) (k := 2)]; simp
  simp (disch := omega) only [wk, avalE, aactE, evPE, boundE, asNat, bv_seql cellsEq_ii, bv_sneqd cellsEq_ii, readC, allOne, fillL, resE, tupled, ↓reduceIte, Nat.reduceEqDiff, Int.reduceEq, Int.reduceLT, Int.reduceLE, Nat.reduceAdd, Nat.reduceMul, Nat.reduceLT, Nat.reduceLeDiff, reduceCtorEq, mk64, z64]
  generalize hZ : encs pairA (List.replicate 28 ((0 : Int), (0 : Int))) = Z at *
  have fv : ∀ a b c d e, floatV [.eptr a, .eptr b, .eptr c, .eptr d] [e] = true := fun _ _ _ _ _ => rfl
  simp (disch := omega) only [wk, avalE, aactE, evPE, boundE, asNat, bv_seql cellsEq_ii, bv_sneqd cellsEq_ii, readC, allOne, fillL, resE, tupled, ↓reduceIte, Nat.reduceEqDiff, Int.reduceEq, Int.reduceLT, Int.reduceLE, Nat.reduceAdd, Nat.reduceMul, Nat.reduceLT, Nat.reduceLeDiff, reduceCtorEq, Int.reduceToNat, Int.reduceAdd, Int.reduceSub, Int.reduceMul, Int.reduceNeg, Nat.reduceSub, Nat.reduceDiv, le28, fv]
  have hh8 : [AV.int .u64 (7522529147838689024 + v), .int .u64 s, .int .u64 l, .int .u64 f, .int .u64 y, .int .u64 0, .int .u64 0, .int .u64 0].length = 8 := rfl
  have hhd : hfL [AV.int .u64 (7522529147838689024 + v), .int .u64 s, .int .u64 l, .int .u64 f, .int .u64 y, .int .u64 0, .int .u64 0, .int .u64 0] = true := rfl
  have fin : wordsA (hdN v s l f y) (fillP ps) [] = layW [AV.int .u64 (7522529147838689024 + v), .int .u64 s, .int .u64 l, .int .u64 f, .int .u64 y, .int .u64 0, .int .u64 0, .int .u64 0] ps (List.replicate (28 - ps.length) (0, 0)) := by
    rw [wordsA, layW, List.append_nil]; rfl
  have ini : [AV.int .u64 (7522529147838689024 + v), .int .u64 s, .int .u64 l, .int .u64 f, .int .u64 y, .int .u64 0, .int .u64 0, .int .u64 0] ++ Z = layW [AV.int .u64 (7522529147838689024 + v), .int .u64 s, .int .u64 l, .int .u64 f, .int .u64 y, .int .u64 0, .int .u64 0, .int .u64 0] [] (List.replicate (28 - 0) (0, 0)) := by
    rw [layW, ← hZ]; rfl
  rw [fin]
  simp only [List.cons_append, List.nil_append] at ini
  rw [ini]
  generalize [AV.int .u64 (7522529147838689024 + v), .int .u64 s, .int .u64 l, .int .u64 f, .int .u64 y, .int .u64 0, .int .u64 0, .int .u64 0] = hd at *
  refine loop_ind (fun (x : List (Int × Int) × List (Int × Int)) E df H1 => ps = x.1 ++ x.2 ∧ E 1 = .eptr [.int .i64 v, .int .i64 s, .int .u64 l, .int .u64 f, .int .i64 y, .sl z ps.length (encs pairA ps) .ro] ∧ E 3 = .msl 1 0 0 64 ∧ E 4 = .int .i64 (x.1.length : Nat) ∧ df = [] ∧ H1 = [.cells (layW hd x.1 (List.replicate (28 - x.1.length) (0, 0)))]) (fun x => x.2.length) ([], ps) (by decide) (.inl rfl) ⟨rfl, rfl, rfl, rfl, rfl, rfl⟩ ?_
  intro ⟨pre, suf⟩ E df H1 ih hP
  obtain ⟨a1, E1, E3, E4, hdf, hh⟩ := hP
  dsimp only at a1 E4 hh
  subst hdf hh
  have hRl : ps.length = pre.length + suf.length := by rw [a1, List.length_append]
  cases suf with
  | nil =>
    simp only [List.length_nil, Nat.add_zero] at hRl
    rw [List.append_nil] at a1
    have nl : ¬ (pre.length : Int) < ps.length := by omega
    have hhf : hfL (layW hd ps (List.replicate (28 - ps.length) (0, 0))) = true := by rw [layW, hfL_append, hf_pairA, hhd]; rfl
    have h64 : (layW hd ps (List.replicate (28 - ps.length) (0, 0))).length = 64 := by
      rw [layW, List.length_append, hh8, encs_length (f := pairA) (k := 2), List.length_append, List.length_replicate]; omega
    subst a1
    simp (disch := omega) only [wk, avalE, aactE, evPE, boundE, asNat, bv_seql cellsEq_ii, bv_sneqd cellsEq_ii, readC, allOne, fillL, resE, tupled, ↓reduceIte, Nat.reduceEqDiff, Int.reduceEq, Int.reduceLT, Int.reduceLE, Nat.reduceAdd, Nat.reduceMul, Nat.reduceLT, Nat.reduceLeDiff, reduceCtorEq, E1, E3, E4, nl]
    simp only [purify, List.getElem?_cons_zero]
    rw [if_pos ⟨by rw [h64]; omega, hhf⟩, List.drop_zero, List.take_of_length_le (by rw [h64]; omega)]
  | cons x r =>
    simp only [List.length_cons] at hRl
    obtain rfl := hz (by rw [a1]; simp)
    obtain ⟨kk, q⟩ := x
    have dr : List.drop (pre.length * 2) (encs pairA ps) = .int .u64 kk :: .int .u64 q :: encs pairA r := by rw [a1, drop_pre, encs_cons]; rfl
    have lt : (pre.length : Int) < ps.length := by omega
    have tn1 : (8 + 2 * (pre.length : Int)).toNat = 8 + 2 * pre.length := by omega
    have tn2 : (9 + 2 * (pre.length : Int)).toNat = 8 + 2 * pre.length + 1 := by omega
    have er : List.replicate (28 - pre.length) ((0 : Int), (0 : Int)) = (0, 0) :: List.replicate (28 - (pre ++ [(kk, q)]).length) (0, 0) := by
      rw [show 28 - pre.length = (28 - (pre ++ [(kk, q)]).length) + 1 by simp; omega]; rfl
    rw [er]
    generalize hR : List.replicate (28 - (pre ++ [(kk, q)]).length) ((0 : Int), (0 : Int)) = R at *
    have w1 := layW_key hh8 pre (0, 0) R kk
    have w2 := layW_ptr hh8 pre (kk, 0) R q
    have hlen1 : (layW hd pre ((0, 0) :: R)).length = 64 := by
      rw [layW, List.length_append, hh8, encs_length (f := pairA) (k := 2), List.length_append, List.length_cons, ← hR]; simp; omega
    have hlen2 : (layW hd pre ((kk, 0) :: R)).length = 64 := by
      rw [layW, List.length_append, hh8, encs_length (f := pairA) (k := 2), List.length_append, List.length_cons, ← hR]; simp; omega
    dsimp only at w1 w2
    simp (disch := omega) only [wk, avalE, aactE, evPE, boundE, asNat, bv_seql cellsEq_ii, bv_sneqd cellsEq_ii, readC, allOne, fillL, resE, tupled, ↓reduceIte, Nat.reduceEqDiff, Int.reduceEq, Int.reduceLT, Int.reduceLE, Nat.reduceAdd, Nat.reduceMul, Nat.reduceLT, Nat.reduceLeDiff, reduceCtorEq, Nat.zero_add, E1, E3, E4, lt, dr, tn1, tn2, w1, w2, hlen1, hlen2]
    refine ih (pre ++ [(kk, q)], r) _ _ _ (by simp) ?_
    refine ⟨by rw [a1]; simp, by simp only [en, ↓reduceIte, Nat.reduceEqDiff, E1], by simp only [en, ↓reduceIte, Nat.reduceEqDiff, E3], by simp only [en, ↓reduceIte, Nat.reduceEqDiff], rfl, ?_⟩
    have e2 : layW hd pre ((kk, q) :: R) = layW hd (pre ++ [(kk, q)]) R := by simp [layW]
    rw [e2]
    exact congrArg (fun z => [AObj.cells (layW hd (pre ++ [(kk, q)]) z)]) hR.symm
/-- The stores that strike so many pairs, from one on, the last one first. -/
def splS (a : Nat) : Nat → List (Int × Int)
  | 0 => []
  | c + 1 => (2 * ((a + c : Nat) : Int) + 9, 0) :: splS a c
theorem splS_len (a c : Nat) : (splS a c).length = c := by
  induction c with
  | zero => rfl
  | succ c ih => simp [splS, ih]
/-- The new node's head, and its pairs. -/
def splH (h : Hd) (x : Int × Int) : Hd := if h.m = nmark then hdN 0 h.s x.1 leafL 0 else hdN (h.m - nmark) h.s x.1 x.2 0
def splP (h : Hd) (x : Int × Int) (B : List (Int × Int)) : List (Int × Int) := if h.m = nmark then x :: B else B
def resS (w : AV) (l : List (Int × Int)) (e : Int) : AV := .tup [w, slvR 2 putA l, .int .i64 e]
/-- What Split comes to: an error, or the new node's words, and the stores. -/
inductive SplR (h : Hd) (ps : List (Int × Int)) (to : Int) : AV → Prop
  | bad (hn : ¬ h.ok) : SplR h ps to (resS (.sl 0 0 [] .z) [] 210)
  | un (hk : h.ok) (hc : chkE h ps ≠ 0) : SplR h ps to (resS (.sl 0 0 [] .z) [] 190)
  | arg (hk : h.ok) (hc : chkE h ps = 0) (ha : ¬ (blockI to ∧ 2 ≤ (rdL h.f ps).length)) : SplR h ps to (resS (.sl 0 0 [] .z) [] 2)
  | ok (hk : h.ok) (hc : chkE h ps = 0) (hb : blockI to) (A B : List (Int × Int)) (x : Int × Int) (e : rdL h.f ps = A ++ x :: B) (hA : A.length = (rdL h.f ps).length / 2) (h2 : 2 ≤ (rdL h.f ps).length) :
      SplR h ps to (resS (.sl 1 64 (wordsA (splH h x) (fillP (splP h x B)) []) .ro) ((1, to) :: splS A.length (B.length + 1)) 0)
theorem appe (u w : AV) (hu : u.one = true) (hw : w.one = true) (q r : AV) (hq : q.one = true) (hr : r.one = true) (H : Heap) : appV 2 16 (.sl 2 1 [u, w] .e) (.sl 2 1 [q, r] .ro) H = some (.val (.sl 2 2 [u, w, q, r] (.own H.length)), H ++ [.tok 2]) := by
  simp [appV, allOne, hq, hr]
theorem cutL (l : List (Int × Int)) (h2 : 2 ≤ l.length) : ∃ A x B, l = A ++ x :: B ∧ A.length = l.length / 2 := by
  have hlt : l.length / 2 < l.length := by omega
  refine ⟨l.take (l.length / 2), l[l.length / 2], l.drop (l.length / 2 + 1), ?_, by simp; omega⟩
  rw [List.getElem_cons_drop hlt, List.take_append_drop]
theorem split_len (n : Nat) (cs : List AV) (tk : Tk) (to : Int) (H : Heap) (hn : (n : Int) ≤ 9223372036854775807) (hc : hfL cs = true) (h : n ≠ 64) : pcx (cbL tab) 21 [.sl 1 n cs tk, .int .i64 to] H = some (.plain (resS (.sl 0 0 [] .z) [] 210)) := by
  obtain ⟨u1, e1, f1⟩ := lend_sl 1 n cs tk
  refine pcx_N rfl (pc_wp (fi := c21) rfl ?_ (by simp [c21]) (by decide) ?_)
  · simp only [pcOn, List.map_cons, List.map_nil, hfL, hf_lend_sl, hf_lend_int, hf_lend_bool, hf_lend_str, hfL_append, Bool.and_self, Bool.and_true, Bool.true_and, c21, hc]
  unfold c21
  rw [List.map_cons, List.map_cons, List.map_nil, e1]
  have o := fun H => settled_len n cs u1 H hn hc h
  rw [nd0_av] at o
  simp (disch := omega) only [wk, avalE, aactE, evPE, boundE, asNat, bv_seql cellsEq_ii, bv_sneqd cellsEq_ii, readC, allOne, fillL, resE, tupled, ↓reduceIte, Nat.reduceEqDiff, Int.reduceEq, Int.reduceLT, Int.reduceLE, Nat.reduceAdd, Nat.reduceMul, Nat.reduceLT, Nat.reduceLeDiff, reduceCtorEq, lend_int, o]
  rfl
theorem refsplit_len (n : Nat) (cs : List AV) (tk : Tk) (to : Int) (H : Heap) (hn : (n : Int) ≤ 9223372036854775807) (hc : hfL cs = true) (h : n ≠ 64) : pcx (cbL tab) 23 [.sl 1 n cs tk, .int .i64 to] H = some (.plain (resS (.sl 0 0 [] .z) [] 210)) := by
  obtain ⟨u1, e1, f1⟩ := lend_sl 1 n cs tk
  refine pcx_N rfl (pc_wp (fi := c23) rfl ?_ (by simp [c23]) (by decide) ?_)
  · simp only [pcOn, List.map_cons, List.map_nil, hfL, hf_lend_sl, hf_lend_int, hf_lend_bool, hf_lend_str, hfL_append, Bool.and_self, Bool.and_true, Bool.true_and, c23, hc]
  unfold c23
  rw [List.map_cons, List.map_cons, List.map_nil, e1]
  have o := fun H => refcheck_len n cs u1 H hn hc h
  simp (disch := omega) only [wk, avalE, aactE, evPE, boundE, asNat, bv_seql cellsEq_ii, bv_sneqd cellsEq_ii, readC, allOne, fillL, resE, tupled, ↓reduceIte, Nat.reduceEqDiff, Int.reduceEq, Int.reduceLT, Int.reduceLE, Nat.reduceAdd, Nat.reduceMul, Nat.reduceLT, Nat.reduceLeDiff, reduceCtorEq, lend_int, o]
  rfl
theorem split_words (h : Hd) (hu : h.u) (ps : List (Int × Int)) (hp : ps.length = 28) (rest : List AV) (tk : Tk) (to : Int) (H : Heap) (hc : hfL rest = true) {r : AV} (hr : SplR h ps to r) :
    pcx (cbL tab) 21 [.sl 1 64 (wordsA h ps rest) tk, .int .i64 to] H = some (.plain r) := by
  have hcs := hf_words h ps rest hc
  obtain ⟨u1, e1, f1⟩ := lend_sl 1 64 (wordsA h ps rest) tk
  refine pcx_N rfl (pc_wp (fi := c21) rfl ?_ (by simp [c21]) (by decide) ?_)
  · simp only [pcOn, List.map_cons, List.map_nil, hfL, hf_lend_sl, hf_lend_int, hf_lend_bool, hf_lend_str, hfL_append, Bool.and_self, Bool.and_true, Bool.true_and, c21, hcs]
  unfold c21
  rw [List.map_cons, List.map_cons, List.map_nil, e1]
  have o := fun H => settled_words h hu ps hp rest u1 H hc
  have so := slvR_one (sz := 2) (f := pairA) (rdL h.f ps)
  obtain ⟨z, k, ev, hz, kf⟩ := slv_sl (rdL h.f ps)
  have eN : (ndOf h ps).av = .agg [.int .i64 (h.m - nmark), .int .i64 h.s, .int .u64 h.l, .int .u64 h.f, .int .i64 h.y, slvR 2 pairA (rdL h.f ps)] := rfl
  rw [eN] at o
  rw [ev] at o so
  cases hr with
  | bad hn =>
    simp only [hn, if_false, nd0_av, false_and] at o
    simp (disch := omega) only [wk, avalE, aactE, evPE, boundE, asNat, bv_seql cellsEq_ii, bv_sneqd cellsEq_ii, readC, allOne, fillL, resE, tupled, ↓reduceIte, Nat.reduceEqDiff, Int.reduceEq, Int.reduceLT, Int.reduceLE, Nat.reduceAdd, Nat.reduceMul, Nat.reduceLT, Nat.reduceLeDiff, reduceCtorEq, lend_int, o]
    rfl
  | un hk hch =>
    simp only [hk, hch, chk_two h ps hch, if_false, if_true, nd0_av, true_and] at o
    simp (disch := omega) only [wk, avalE, aactE, evPE, boundE, asNat, bv_seql cellsEq_ii, bv_sneqd cellsEq_ii, readC, allOne, fillL, resE, tupled, ↓reduceIte, Nat.reduceEqDiff, Int.reduceEq, Int.reduceLT, Int.reduceLE, Nat.reduceAdd, Nat.reduceMul, Nat.reduceLT, Nat.reduceLeDiff, reduceCtorEq, lend_int, o]
    rfl
  | arg hk hch ha =>
    simp only [hk, hch, if_true, and_self] at o
    have hlen := rdL_le h.f ps
    generalize rdL h.f ps = R at *
    by_cases t1 : to < 1
    · simp (disch := omega) only [wk, avalE, aactE, evPE, boundE, asNat, bv_seql cellsEq_ii, bv_sneqd cellsEq_ii, readC, allOne, fillL, resE, tupled, ↓reduceIte, Nat.reduceEqDiff, Int.reduceEq, Int.reduceLT, Int.reduceLE, Nat.reduceAdd, Nat.reduceMul, Nat.reduceLT, Nat.reduceLeDiff, reduceCtorEq, lend_int, o, so, t1, runG_un]
      rfl
    by_cases t2 : to ≥ 2048
    · simp (disch := omega) only [wk, avalE, aactE, evPE, boundE, asNat, bv_seql cellsEq_ii, bv_sneqd cellsEq_ii, readC, allOne, fillL, resE, tupled, ↓reduceIte, Nat.reduceEqDiff, Int.reduceEq, Int.reduceLT, Int.reduceLE, Nat.reduceAdd, Nat.reduceMul, Nat.reduceLT, Nat.reduceLeDiff, reduceCtorEq, lend_int, o, so, t1, t2, runG_un]
      rfl
    have t3 : (R.length : Int) < 2 := by
      apply Classical.byContradiction
      intro g
      exact ha ⟨⟨by omega, by omega⟩, by omega⟩
    simp (disch := omega) only [wk, avalE, aactE, evPE, boundE, asNat, bv_seql cellsEq_ii, bv_sneqd cellsEq_ii, readC, allOne, fillL, resE, tupled, ↓reduceIte, Nat.reduceEqDiff, Int.reduceEq, Int.reduceLT, Int.reduceLE, Nat.reduceAdd, Nat.reduceMul, Nat.reduceLT, Nat.reduceLeDiff, reduceCtorEq, lend_int, o, so, t1, t2, t3, runG_un]
    rfl
  | ok hk hch hb A B x e hA h2 =>
    simp only [hk, hch, if_true, and_self] at o
    have hlen := rdL_le h.f ps
    obtain ⟨b1, b2⟩ := hb
    have t1 : ¬ to < 1 := by omega
    have t2 : ¬ to ≥ 2048 := by omega
    have t3 : ¬ ((rdL h.f ps).length : Int) < 2 := by omega
    obtain rfl := hz (by rw [e]; simp)
    have hu' := hu
    have hok := hk
    obtain ⟨hum, hus, hul, huf, huy⟩ := hu'
    have hm12 : 0 ≤ h.m - nmark ∧ h.m - nmark ≤ 12 := by have := hk.1; have := hk.2.1; omega
    have hs' := hk.2.2.1
    have hN : (rdL h.f ps).length = A.length + B.length + 1 := by rw [e]; simp; omega
    have d1 : List.drop (A.length * 2) (encs pairA (rdL h.f ps)) = encs pairA (x :: B) := by rw [e, drop_pre]
    have d2 : List.drop ((A.length + 1) * 2) (encs pairA (rdL h.f ps)) = encs pairA B := by
      rw [e, show A ++ x :: B = (A ++ [x]) ++ B by simp, show A.length + 1 = (A ++ [x]).length by simp, drop_pre]
    have hcl : (encs pairA (rdL h.f ps)).length = (rdL h.f ps).length * 2 := encs_length (f := pairA) (k := 2) _
    have hq : ((rdL h.f ps).length : Int) / 2 = (A.length : Int) := by omega
    have lf : laid_px = laid_px := rfl
    have L0 := fun H => laid_px 0 h.s x.1 leafL 0 (x :: B) 2 (fun _ => rfl) (by simp; omega) ⟨by omega, by omega⟩ ⟨hus.1, hs'⟩ ⟨by omega, by omega⟩ H
    have L1 := fun H => laid_px (h.m - nmark) h.s x.1 x.2 0 B 2 (fun _ => rfl) (by omega) hm12 ⟨hus.1, hs'⟩ ⟨by omega, by omega⟩ H
    generalize rdL h.f ps = R at *
    have dx : List.drop (A.length * 2) (encs pairA R) = .int .u64 x.1 :: .int .u64 x.2 :: encs pairA B := by rw [d1, encs_cons]; rfl
    have fv : floatV [.ptr 0 5] [.ptr 1 3] = true := rfl
    by_cases hm : h.m = nmark
    · have hm0 : h.m - nmark = 0 := by omega
      rw [hm0] at o
      simp (disch := omega) only [wk, avalE, aactE, evPE, boundE, asNat, bv_seql cellsEq_ii, bv_sneqd cellsEq_ii, readC, allOne, fillL, resE, tupled, ↓reduceIte, Nat.reduceEqDiff, Int.reduceEq, Int.reduceLT, Int.reduceLE, Nat.reduceAdd, Nat.reduceMul, Nat.reduceLT, Nat.reduceLeDiff, reduceCtorEq, lend_int, o, so, t1, t2, t3, hq, dx, runG_un, fv]
      have La : ∀ H, pcx (cbL tab) 59 [.agg [.int .i64 0, .int .i64 h.s, .int .u64 x.1, .int .u64 9223372036854775808, .int .i64 0, .sl 2 (R.length - A.length) (.int .u64 x.1 :: .int .u64 x.2 :: encs pairA B) .ro]] H = some (.plain (.sl 1 64 (wordsA (splH h x) (fillP (splP h x B)) []) .ro)) := by
        intro H
        have hlL : R.length - A.length = (x :: B).length := by simp; omega
        have hlB : R.length - (A.length + 1) = B.length := by omega
        rw [hlL, splH, if_pos hm, splP, if_pos hm]
        exact L0 H
      rw [ret_loop]
      have fa : ∀ (q : Int) (H : Heap), appV 2 16 (.sl 2 1 [.int .i64 1, .int .u64 to] .e) (.sl 2 1 [.int .i64 q, .int .u64 0] .ro) H = some (.val (.sl 2 2 [.int .i64 1, .int .u64 to, .int .i64 q, .int .u64 0] (.own H.length)), H ++ [.tok 2]) := fun q H => appe _ _ rfl rfl _ _ rfl rfl H
      simp (disch := omega) only [wk, avalE, aactE, evPE, boundE, asNat, bv_seql cellsEq_ii, bv_sneqd cellsEq_ii, readC, allOne, fillL, resE, tupled, ↓reduceIte, Nat.reduceEqDiff, Int.reduceEq, Int.reduceLT, Int.reduceLE, Nat.reduceAdd, Nat.reduceMul, Nat.reduceLT, Nat.reduceLeDiff, reduceCtorEq, hq, fa]
      refine ret_again (by decide) (.inl rfl) ?_
      refine loop_ind (fun (x' : Nat × List (Int × Int) × Int) E df H1 => x'.2.1 ++ splS A.length x'.1 = (1, to) :: splS A.length (B.length + 1) ∧ x'.1 ≤ B.length ∧ x'.2.2 + 1 = (A.length : Int) + x'.1 ∧ E 10 = .int .i64 (A.length : Nat) ∧ E 11 = .ptr 1 0 ∧ E 13 = .int .i64 x'.2.2 ∧ df = [] ∧ Own H1 2 (E 12) x'.2.1.length (encs putA x'.2.1) ∧ (∀ a b c, E 12 ≠ .sl a b c .e) ∧ H1[1]? = some (.cells [.int .i64 0, .int .i64 h.s, .int .u64 x.1, .int .u64 9223372036854775808, .int .i64 0, .sl 2 (R.length - A.length) (.int .u64 x.1 :: .int .u64 x.2 :: encs pairA B) .ro]))
        (fun x' => x'.1) (B.length, [(1, to), (2 * ((A.length + B.length : Nat) : Int) + 9, 0)], (R.length : Int) - 1 - 1) (by decide) (.inl rfl) ⟨rfl, Nat.le_refl _, by dsimp only; omega, by simp only [en, ↓reduceIte, Nat.reduceEqDiff], by simp only [en, ↓reduceIte, Nat.reduceEqDiff], by simp only [en, ↓reduceIte, Nat.reduceEqDiff], rfl, ?_, ?_, rfl⟩ ?_
      · simp only [en, ↓reduceIte, Nat.reduceEqDiff]
        refine .inr ⟨by simp, 2, ?_, rfl⟩
        simp [encs_cons, putA, encs_nil]
        omega
      · intro a b c e
        simp only [en, ↓reduceIte, Nat.reduceEqDiff] at e
        cases e
      intro ⟨c, L, J⟩ E df H1 ih hP
      obtain ⟨a1, a2, a3, E10, E11, E13, hdf, ho, hne, hh⟩ := hP
      dsimp only at a1 a2 a3 E13 ho
      subst hdf
      cases c with
      | zero =>
        have nj : ¬ J ≥ (A.length : Int) := by omega
        rw [splS, List.append_nil] at a1
        simp (disch := omega) only [wk, avalE, aactE, evPE, boundE, asNat, bv_seql cellsEq_ii, bv_sneqd cellsEq_ii, readC, allOne, fillL, resE, tupled, ↓reduceIte, Nat.reduceEqDiff, Int.reduceEq, Int.reduceLT, Int.reduceLE, Nat.reduceAdd, Nat.reduceMul, Nat.reduceLT, Nat.reduceLeDiff, reduceCtorEq, E10, E11, E13, nj, hh, La]
        have hlx := own_lend ho hne
        rw [purify_tup ⟨_, _, _, _, rfl⟩]
        simp only [List.map_cons, List.map_nil, hlx, lend_int, lend_ro]
        have hw := hf_words (splH h x) (fillP (splP h x B)) [] rfl
        simp only [AV.hf, hfL, hw, Tk.hf, slvR_hf (f := putA) (fun _ => rfl), Bool.and_self, if_true, resS, ← a1]
      | succ c =>
        have hj : J ≥ (A.length : Int) := by omega
        have hJ : J = (A.length : Int) + c := by omega
        have hLl : L.length ≤ 100 := by
          have := congrArg List.length a1
          simp only [List.length_append, List.length_cons, splS_len] at this
          omega
        have hg : ∀ o : AObj, (H1 ++ [o])[1]? = H1[1]? := fun o => List.getElem?_append_left (List.getElem?_eq_some_iff.1 hh).1
        simp (disch := omega) only [wk, avalE, aactE, evPE, boundE, asNat, bv_seql cellsEq_ii, bv_sneqd cellsEq_ii, readC, allOne, fillL, resE, tupled, ↓reduceIte, Nat.reduceEqDiff, Int.reduceEq, Int.reduceLT, Int.reduceLE, Nat.reduceAdd, Nat.reduceMul, Nat.reduceLT, Nat.reduceLeDiff, reduceCtorEq, E10, E11, E13, hj]
        refine runX_app ho (by omega) (by omega) (by omega) (by omega) rfl rfl (fun H2 r1 r2 r3 => ?_)
        simp (disch := omega) only [wk, avalE, aactE, evPE, boundE, asNat, bv_seql cellsEq_ii, bv_sneqd cellsEq_ii, readC, allOne, fillL, resE, tupled, ↓reduceIte, Nat.reduceEqDiff, Int.reduceEq, Int.reduceLT, Int.reduceLE, Nat.reduceAdd, Nat.reduceMul, Nat.reduceLT, Nat.reduceLeDiff, reduceCtorEq, E10, E11, E13]
        have s1 : encs putA (L ++ [(2 * ((A.length + c : Nat) : Int) + 9, 0)]) = encs putA L ++ [.int .i64 (8 + 2 * J + 1), .int .u64 0] := by
          rw [encs_append, hJ]
          simp [encs_cons, putA, encs_nil]
          omega
        refine ih (c, L ++ [(2 * ((A.length + c : Nat) : Int) + 9, 0)], J - 1) _ _ _ (by simp) ?_
        refine ⟨by rw [← a1, splS]; simp, by dsimp only; omega, by dsimp only; omega, by simp only [en, ↓reduceIte, Nat.reduceEqDiff, E10], by simp only [en, ↓reduceIte, Nat.reduceEqDiff, E11], by simp only [en, ↓reduceIte, Nat.reduceEqDiff], rfl, ?_, ?_, ?_⟩
        · simp only [s1, List.length_append, List.length_cons, List.length_nil, Nat.zero_add]
          simp only [en, ↓reduceIte, Nat.reduceEqDiff]
          exact r1
        · intro a b c' e
          simp only [en, ↓reduceIte, Nat.reduceEqDiff] at e
          cases e
        · exact Kept.cells r2 ho rfl hh (fun s e => by cases e)
    · have hm0 : h.m - nmark > 0 := by omega
      have tnA : ((A.length : Int) + 1).toNat = A.length + 1 := by omega
      simp (disch := omega) only [wk, avalE, aactE, evPE, boundE, asNat, bv_seql cellsEq_ii, bv_sneqd cellsEq_ii, readC, allOne, fillL, resE, tupled, ↓reduceIte, Nat.reduceEqDiff, Int.reduceEq, Int.reduceLT, Int.reduceLE, Nat.reduceAdd, Nat.reduceMul, Nat.reduceLT, Nat.reduceLeDiff, reduceCtorEq, lend_int, o, so, t1, t2, t3, hq, dx, tnA, d2, runG_un, fv, hm0]
      have La : ∀ H, pcx (cbL tab) 59 [.agg [.int .i64 (h.m - nmark), .int .i64 h.s, .int .u64 x.1, .int .u64 x.2, .int .i64 0, .sl 2 (R.length - (A.length + 1)) (encs pairA B) .ro]] H = some (.plain (.sl 1 64 (wordsA (splH h x) (fillP (splP h x B)) []) .ro)) := by
        intro H
        have hlL : R.length - A.length = (x :: B).length := by simp; omega
        have hlB : R.length - (A.length + 1) = B.length := by omega
        rw [hlB, splH, if_neg hm, splP, if_neg hm]
        exact L1 H
      rw [ret_loop]
      have fa : ∀ (q : Int) (H : Heap), appV 2 16 (.sl 2 1 [.int .i64 1, .int .u64 to] .e) (.sl 2 1 [.int .i64 q, .int .u64 0] .ro) H = some (.val (.sl 2 2 [.int .i64 1, .int .u64 to, .int .i64 q, .int .u64 0] (.own H.length)), H ++ [.tok 2]) := fun q H => appe _ _ rfl rfl _ _ rfl rfl H
      simp (disch := omega) only [wk, avalE, aactE, evPE, boundE, asNat, bv_seql cellsEq_ii, bv_sneqd cellsEq_ii, readC, allOne, fillL, resE, tupled, ↓reduceIte, Nat.reduceEqDiff, Int.reduceEq, Int.reduceLT, Int.reduceLE, Nat.reduceAdd, Nat.reduceMul, Nat.reduceLT, Nat.reduceLeDiff, reduceCtorEq, hq, fa]
      refine ret_again (by decide) (.inl rfl) ?_
      refine loop_ind (fun (x' : Nat × List (Int × Int) × Int) E df H1 => x'.2.1 ++ splS A.length x'.1 = (1, to) :: splS A.length (B.length + 1) ∧ x'.1 ≤ B.length ∧ x'.2.2 + 1 = (A.length : Int) + x'.1 ∧ E 10 = .int .i64 (A.length : Nat) ∧ E 11 = .ptr 1 0 ∧ E 13 = .int .i64 x'.2.2 ∧ df = [] ∧ Own H1 2 (E 12) x'.2.1.length (encs putA x'.2.1) ∧ (∀ a b c, E 12 ≠ .sl a b c .e) ∧ H1[1]? = some (.cells [.int .i64 (h.m - nmark), .int .i64 h.s, .int .u64 x.1, .int .u64 x.2, .int .i64 0, .sl 2 (R.length - (A.length + 1)) (encs pairA B) .ro]))
        (fun x' => x'.1) (B.length, [(1, to), (2 * ((A.length + B.length : Nat) : Int) + 9, 0)], (R.length : Int) - 1 - 1) (by decide) (.inl rfl) ⟨rfl, Nat.le_refl _, by dsimp only; omega, by simp only [en, ↓reduceIte, Nat.reduceEqDiff], by simp only [en, ↓reduceIte, Nat.reduceEqDiff], by simp only [en, ↓reduceIte, Nat.reduceEqDiff], rfl, ?_, ?_, rfl⟩ ?_
      · simp only [en, ↓reduceIte, Nat.reduceEqDiff]
        refine .inr ⟨by simp, 2, ?_, rfl⟩
        simp [encs_cons, putA, encs_nil]
        omega
      · intro a b c e
        simp only [en, ↓reduceIte, Nat.reduceEqDiff] at e
        cases e
      intro ⟨c, L, J⟩ E df H1 ih hP
      obtain ⟨a1, a2, a3, E10, E11, E13, hdf, ho, hne, hh⟩ := hP
      dsimp only at a1 a2 a3 E13 ho
      subst hdf
      cases c with
      | zero =>
        have nj : ¬ J ≥ (A.length : Int) := by omega
        rw [splS, List.append_nil] at a1
        simp (disch := omega) only [wk, avalE, aactE, evPE, boundE, asNat, bv_seql cellsEq_ii, bv_sneqd cellsEq_ii, readC, allOne, fillL, resE, tupled, ↓reduceIte, Nat.reduceEqDiff, Int.reduceEq, Int.reduceLT, Int.reduceLE, Nat.reduceAdd, Nat.reduceMul, Nat.reduceLT, Nat.reduceLeDiff, reduceCtorEq, E10, E11, E13, nj, hh, La]
        have hlx := own_lend ho hne
        rw [purify_tup ⟨_, _, _, _, rfl⟩]
        simp only [List.map_cons, List.map_nil, hlx, lend_int, lend_ro]
        have hw := hf_words (splH h x) (fillP (splP h x B)) [] rfl
        simp only [AV.hf, hfL, hw, Tk.hf, slvR_hf (f := putA) (fun _ => rfl), Bool.and_self, if_true, resS, ← a1]
      | succ c =>
        have hj : J ≥ (A.length : Int) := by omega
        have hJ : J = (A.length : Int) + c := by omega
        have hLl : L.length ≤ 100 := by
          have := congrArg List.length a1
          simp only [List.length_append, List.length_cons, splS_len] at this
          omega
        have hg : ∀ o : AObj, (H1 ++ [o])[1]? = H1[1]? := fun o => List.getElem?_append_left (List.getElem?_eq_some_iff.1 hh).1
        simp (disch := omega) only [wk, avalE, aactE, evPE, boundE, asNat, bv_seql cellsEq_ii, bv_sneqd cellsEq_ii, readC, allOne, fillL, resE, tupled, ↓reduceIte, Nat.reduceEqDiff, Int.reduceEq, Int.reduceLT, Int.reduceLE, Nat.reduceAdd, Nat.reduceMul, Nat.reduceLT, Nat.reduceLeDiff, reduceCtorEq, E10, E11, E13, hj]
        refine runX_app ho (by omega) (by omega) (by omega) (by omega) rfl rfl (fun H2 r1 r2 r3 => ?_)
        simp (disch := omega) only [wk, avalE, aactE, evPE, boundE, asNat, bv_seql cellsEq_ii, bv_sneqd cellsEq_ii, readC, allOne, fillL, resE, tupled, ↓reduceIte, Nat.reduceEqDiff, Int.reduceEq, Int.reduceLT, Int.reduceLE, Nat.reduceAdd, Nat.reduceMul, Nat.reduceLT, Nat.reduceLeDiff, reduceCtorEq, E10, E11, E13]
        have s1 : encs putA (L ++ [(2 * ((A.length + c : Nat) : Int) + 9, 0)]) = encs putA L ++ [.int .i64 (8 + 2 * J + 1), .int .u64 0] := by
          rw [encs_append, hJ]
          simp [encs_cons, putA, encs_nil]
          omega
        refine ih (c, L ++ [(2 * ((A.length + c : Nat) : Int) + 9, 0)], J - 1) _ _ _ (by simp) ?_
        refine ⟨by rw [← a1, splS]; simp, by dsimp only; omega, by dsimp only; omega, by simp only [en, ↓reduceIte, Nat.reduceEqDiff, E10], by simp only [en, ↓reduceIte, Nat.reduceEqDiff, E11], by simp only [en, ↓reduceIte, Nat.reduceEqDiff], rfl, ?_, ?_, ?_⟩
        · simp only [s1, List.length_append, List.length_cons, List.length_nil, Nat.zero_add]
          simp only [en, ↓reduceIte, Nat.reduceEqDiff]
          exact r1
        · intro a b c' e
          simp only [en, ↓reduceIte, Nat.reduceEqDiff] at e
          cases e
        · exact Kept.cells r2 ho rfl hh (fun s e => by cases e)
theorem refsplit_words (h : Hd) (hu : h.u) (ps : List (Int × Int)) (hp : ps.length = 28) (rest : List AV) (tk : Tk) (to : Int) (H : Heap) (hc : hfL rest = true) {r : AV} (hr : SplR h ps to r) :
    pcx (cbL tab) 23 [.sl 1 64 (wordsA h ps rest) tk, .int .i64 to] H = some (.plain r) := by
  have hcs := hf_words h ps rest hc
  obtain ⟨u1, e1, f1⟩ := lend_sl 1 64 (wordsA h ps rest) tk
  refine pcx_N rfl (pc_wp (fi := c23) rfl ?_ (by simp [c23]) (by decide) ?_)
  · simp only [pcOn, List.map_cons, List.map_nil, hfL, hf_lend_sl, hf_lend_int, hf_lend_bool, hf_lend_str, hfL_append, Bool.and_self, Bool.and_true, Bool.true_and, c23, hcs]
  unfold c23
  rw [List.map_cons, List.map_cons, List.map_nil, e1]
  have o := fun H => refcheck_words h hu ps hp rest u1 H hc
  have o2 := fun H => refof_words h hu ps hp rest u1 H hc
  have so := slvR_one (sz := 2) (f := pairA) (rdL h.f ps)
  obtain ⟨z, k, ev, hz, kf⟩ := slv_sl (rdL h.f ps)
  have eN : (ndOf h ps).av = .agg [.int .i64 (h.m - nmark), .int .i64 h.s, .int .u64 h.l, .int .u64 h.f, .int .i64 h.y, slvR 2 pairA (rdL h.f ps)] := rfl
  rw [eN] at o2
  rw [ev] at o2 so
  cases hr with
  | bad hn =>
    simp only [hn, if_false] at o
    simp (disch := omega) only [wk, avalE, aactE, evPE, boundE, asNat, bv_seql cellsEq_ii, bv_sneqd cellsEq_ii, readC, allOne, fillL, resE, tupled, ↓reduceIte, Nat.reduceEqDiff, Int.reduceEq, Int.reduceLT, Int.reduceLE, Nat.reduceAdd, Nat.reduceMul, Nat.reduceLT, Nat.reduceLeDiff, reduceCtorEq, lend_int, o]
    rfl
  | un hk hch =>
    simp only [hk, chk_two h ps hch, if_true] at o
    simp (disch := omega) only [wk, avalE, aactE, evPE, boundE, asNat, bv_seql cellsEq_ii, bv_sneqd cellsEq_ii, readC, allOne, fillL, resE, tupled, ↓reduceIte, Nat.reduceEqDiff, Int.reduceEq, Int.reduceLT, Int.reduceLE, Nat.reduceAdd, Nat.reduceMul, Nat.reduceLT, Nat.reduceLeDiff, reduceCtorEq, lend_int, o]
    rfl
  | arg hk hch ha =>
    simp only [hk, hch, if_true] at o o2
    have hlen := rdL_le h.f ps
    generalize rdL h.f ps = R at *
    by_cases t1 : to < 1
    · simp (disch := omega) only [wk, avalE, aactE, evPE, boundE, asNat, bv_seql cellsEq_ii, bv_sneqd cellsEq_ii, readC, allOne, fillL, resE, tupled, ↓reduceIte, Nat.reduceEqDiff, Int.reduceEq, Int.reduceLT, Int.reduceLE, Nat.reduceAdd, Nat.reduceMul, Nat.reduceLT, Nat.reduceLeDiff, reduceCtorEq, lend_int, o, o2, so, t1, runG_un]
      rfl
    by_cases t2 : to > 2047
    · simp (disch := omega) only [wk, avalE, aactE, evPE, boundE, asNat, bv_seql cellsEq_ii, bv_sneqd cellsEq_ii, readC, allOne, fillL, resE, tupled, ↓reduceIte, Nat.reduceEqDiff, Int.reduceEq, Int.reduceLT, Int.reduceLE, Nat.reduceAdd, Nat.reduceMul, Nat.reduceLT, Nat.reduceLeDiff, reduceCtorEq, lend_int, o, o2, so, t1, t2, runG_un]
      rfl
    have t3 : (R.length : Int) < 2 := by
      apply Classical.byContradiction
      intro g
      exact ha ⟨⟨by omega, by omega⟩, by omega⟩
    simp (disch := omega) only [wk, avalE, aactE, evPE, boundE, asNat, bv_seql cellsEq_ii, bv_sneqd cellsEq_ii, readC, allOne, fillL, resE, tupled, ↓reduceIte, Nat.reduceEqDiff, Int.reduceEq, Int.reduceLT, Int.reduceLE, Nat.reduceAdd, Nat.reduceMul, Nat.reduceLT, Nat.reduceLeDiff, reduceCtorEq, lend_int, o, o2, so, t1, t2, t3, runG_un]
    rfl
  | ok hk hch hb A B x e hA h2 =>
    simp only [hk, hch, if_true] at o o2
    have hlen := rdL_le h.f ps
    obtain ⟨b1, b2⟩ := hb
    have t1 : ¬ to < 1 := by omega
    have t2 : ¬ to > 2047 := by omega
    have t3 : ¬ ((rdL h.f ps).length : Int) < 2 := by omega
    obtain rfl := hz (by rw [e]; simp)
    have hu' := hu
    have hok := hk
    obtain ⟨hum, hus, hul, huf, huy⟩ := hu'
    have hm12 : 0 ≤ h.m - nmark ∧ h.m - nmark ≤ 12 := by have := hk.1; have := hk.2.1; omega
    have hs' := hk.2.2.1
    have hN : (rdL h.f ps).length = A.length + B.length + 1 := by rw [e]; simp; omega
    have d1 : List.drop (A.length * 2) (encs pairA (rdL h.f ps)) = encs pairA (x :: B) := by rw [e, drop_pre]
    have d2 : List.drop ((A.length + 1) * 2) (encs pairA (rdL h.f ps)) = encs pairA B := by
      rw [e, show A ++ x :: B = (A ++ [x]) ++ B by simp, show A.length + 1 = (A ++ [x]).length by simp, drop_pre]
    have hcl : (encs pairA (rdL h.f ps)).length = (rdL h.f ps).length * 2 := encs_length (f := pairA) (k := 2) _
    have hq : ((rdL h.f ps).length : Int) / 2 = (A.length : Int) := by omega
    have L0 := fun H => refwords_px 0 h.s x.1 leafL 0 (x :: B) 2 (fun _ => rfl) (by simp; omega) ⟨by omega, by omega⟩ ⟨hus.1, hs'⟩ ⟨by omega, by omega⟩ H
    have L1 := fun H => refwords_px (h.m - nmark) h.s x.1 x.2 0 B 2 (fun _ => rfl) (by omega) hm12 ⟨hus.1, hs'⟩ ⟨by omega, by omega⟩ H
    generalize rdL h.f ps = R at *
    have dx : List.drop (A.length * 2) (encs pairA R) = .int .u64 x.1 :: .int .u64 x.2 :: encs pairA B := by rw [d1, encs_cons]; rfl
    have fv : floatV [.ptr 0 5] [.ptr 1 3] = true := rfl
    by_cases hm : h.m = nmark
    · have hm0 : h.m - nmark = 0 := by omega
      rw [hm0] at o2
      simp (disch := omega) only [wk, avalE, aactE, evPE, boundE, asNat, bv_seql cellsEq_ii, bv_sneqd cellsEq_ii, readC, allOne, fillL, resE, tupled, ↓reduceIte, Nat.reduceEqDiff, Int.reduceEq, Int.reduceLT, Int.reduceLE, Nat.reduceAdd, Nat.reduceMul, Nat.reduceLT, Nat.reduceLeDiff, reduceCtorEq, lend_int, o, o2, so, t1, t2, t3, hq, dx, runG_un, fv]
      have La : ∀ H, pcx (cbL tab) 60 [.agg [.int .i64 0, .int .i64 h.s, .int .u64 x.1, .int .u64 9223372036854775808, .int .i64 0, .sl 2 (R.length - A.length) (.int .u64 x.1 :: .int .u64 x.2 :: encs pairA B) .ro]] H = some (.plain (.sl 1 64 (wordsA (splH h x) (fillP (splP h x B)) []) .ro)) := by
        intro H
        have hlL : R.length - A.length = (x :: B).length := by simp; omega
        have hlB : R.length - (A.length + 1) = B.length := by omega
        rw [hlL, splH, if_pos hm, splP, if_pos hm]
        exact L0 H
      rw [ret_loop]
      have fa : ∀ (q : Int) (H : Heap), appV 2 16 (.sl 2 1 [.int .i64 1, .int .u64 to] .e) (.sl 2 1 [.int .i64 q, .int .u64 0] .ro) H = some (.val (.sl 2 2 [.int .i64 1, .int .u64 to, .int .i64 q, .int .u64 0] (.own H.length)), H ++ [.tok 2]) := fun q H => appe _ _ rfl rfl _ _ rfl rfl H
      simp (disch := omega) only [wk, avalE, aactE, evPE, boundE, asNat, bv_seql cellsEq_ii, bv_sneqd cellsEq_ii, readC, allOne, fillL, resE, tupled, ↓reduceIte, Nat.reduceEqDiff, Int.reduceEq, Int.reduceLT, Int.reduceLE, Nat.reduceAdd, Nat.reduceMul, Nat.reduceLT, Nat.reduceLeDiff, reduceCtorEq, hq, fa]
      refine ret_again (by decide) (.inl rfl) ?_
      refine loop_ind (fun (x' : Nat × List (Int × Int) × Int) E df H1 => x'.2.1 ++ splS A.length x'.1 = (1, to) :: splS A.length (B.length + 1) ∧ x'.1 ≤ B.length ∧ x'.2.2 + 1 = (A.length : Int) + x'.1 ∧ E 10 = .int .i64 (A.length : Nat) ∧ E 11 = .ptr 1 0 ∧ E 13 = .int .i64 x'.2.2 ∧ df = [] ∧ Own H1 2 (E 12) x'.2.1.length (encs putA x'.2.1) ∧ (∀ a b c, E 12 ≠ .sl a b c .e) ∧ H1[1]? = some (.cells [.int .i64 0, .int .i64 h.s, .int .u64 x.1, .int .u64 9223372036854775808, .int .i64 0, .sl 2 (R.length - A.length) (.int .u64 x.1 :: .int .u64 x.2 :: encs pairA B) .ro]))
        (fun x' => x'.1) (B.length, [(1, to), (2 * ((A.length + B.length : Nat) : Int) + 9, 0)], (R.length : Int) - 1 - 1) (by decide) (.inl rfl) ⟨rfl, Nat.le_refl _, by dsimp only; omega, by simp only [en, ↓reduceIte, Nat.reduceEqDiff], by simp only [en, ↓reduceIte, Nat.reduceEqDiff], by simp only [en, ↓reduceIte, Nat.reduceEqDiff], rfl, ?_, ?_, rfl⟩ ?_
      · simp only [en, ↓reduceIte, Nat.reduceEqDiff]
        refine .inr ⟨by simp, 2, ?_, rfl⟩
        simp [encs_cons, putA, encs_nil]
        omega
      · intro a b c e
        simp only [en, ↓reduceIte, Nat.reduceEqDiff] at e
        cases e
      intro ⟨c, L, J⟩ E df H1 ih hP
      obtain ⟨a1, a2, a3, E10, E11, E13, hdf, ho, hne, hh⟩ := hP
      dsimp only at a1 a2 a3 E13 ho
      subst hdf
      cases c with
      | zero =>
        have nj : ¬ J ≥ (A.length : Int) := by omega
        rw [splS, List.append_nil] at a1
        simp (disch := omega) only [wk, avalE, aactE, evPE, boundE, asNat, bv_seql cellsEq_ii, bv_sneqd cellsEq_ii, readC, allOne, fillL, resE, tupled, ↓reduceIte, Nat.reduceEqDiff, Int.reduceEq, Int.reduceLT, Int.reduceLE, Nat.reduceAdd, Nat.reduceMul, Nat.reduceLT, Nat.reduceLeDiff, reduceCtorEq, E10, E11, E13, nj, hh, La]
        have hlx := own_lend ho hne
        rw [purify_tup ⟨_, _, _, _, rfl⟩]
        simp only [List.map_cons, List.map_nil, hlx, lend_int, lend_ro]
        have hw := hf_words (splH h x) (fillP (splP h x B)) [] rfl
        simp only [AV.hf, hfL, hw, Tk.hf, slvR_hf (f := putA) (fun _ => rfl), Bool.and_self, if_true, resS, ← a1]
      | succ c =>
        have hj : J ≥ (A.length : Int) := by omega
        have hJ : J = (A.length : Int) + c := by omega
        have hLl : L.length ≤ 100 := by
          have := congrArg List.length a1
          simp only [List.length_append, List.length_cons, splS_len] at this
          omega
        have hg : ∀ o : AObj, (H1 ++ [o])[1]? = H1[1]? := fun o => List.getElem?_append_left (List.getElem?_eq_some_iff.1 hh).1
        simp (disch := omega) only [wk, avalE, aactE, evPE, boundE, asNat, bv_seql cellsEq_ii, bv_sneqd cellsEq_ii, readC, allOne, fillL, resE, tupled, ↓reduceIte, Nat.reduceEqDiff, Int.reduceEq, Int.reduceLT, Int.reduceLE, Nat.reduceAdd, Nat.reduceMul, Nat.reduceLT, Nat.reduceLeDiff, reduceCtorEq, E10, E11, E13, hj]
        refine runX_app ho (by omega) (by omega) (by omega) (by omega) rfl rfl (fun H2 r1 r2 r3 => ?_)
        simp (disch := omega) only [wk, avalE, aactE, evPE, boundE, asNat, bv_seql cellsEq_ii, bv_sneqd cellsEq_ii, readC, allOne, fillL, resE, tupled, ↓reduceIte, Nat.reduceEqDiff, Int.reduceEq, Int.reduceLT, Int.reduceLE, Nat.reduceAdd, Nat.reduceMul, Nat.reduceLT, Nat.reduceLeDiff, reduceCtorEq, E10, E11, E13]
        have s1 : encs putA (L ++ [(2 * ((A.length + c : Nat) : Int) + 9, 0)]) = encs putA L ++ [.int .i64 (9 + 2 * J), .int .u64 0] := by
          rw [encs_append, hJ]
          simp [encs_cons, putA, encs_nil]
          omega
        refine ih (c, L ++ [(2 * ((A.length + c : Nat) : Int) + 9, 0)], J - 1) _ _ _ (by simp) ?_
        refine ⟨by rw [← a1, splS]; simp, by dsimp only; omega, by dsimp only; omega, by simp only [en, ↓reduceIte, Nat.reduceEqDiff, E10], by simp only [en, ↓reduceIte, Nat.reduceEqDiff, E11], by simp only [en, ↓reduceIte, Nat.reduceEqDiff], rfl, ?_, ?_, ?_⟩
        · simp only [s1, List.length_append, List.length_cons, List.length_nil, Nat.zero_add]
          simp only [en, ↓reduceIte, Nat.reduceEqDiff]
          exact r1
        · intro a b c' e
          simp only [en, ↓reduceIte, Nat.reduceEqDiff] at e
          cases e
        · exact Kept.cells r2 ho rfl hh (fun s e => by cases e)
    · have hm0 : h.m - nmark > 0 := by omega
      have tnA : ((A.length : Int) + 1).toNat = A.length + 1 := by omega
      simp (disch := omega) only [wk, avalE, aactE, evPE, boundE, asNat, bv_seql cellsEq_ii, bv_sneqd cellsEq_ii, readC, allOne, fillL, resE, tupled, ↓reduceIte, Nat.reduceEqDiff, Int.reduceEq, Int.reduceLT, Int.reduceLE, Nat.reduceAdd, Nat.reduceMul, Nat.reduceLT, Nat.reduceLeDiff, reduceCtorEq, lend_int, o, o2, so, t1, t2, t3, hq, dx, tnA, d2, runG_un, fv, hm0]
      have La : ∀ H, pcx (cbL tab) 60 [.agg [.int .i64 (h.m - nmark), .int .i64 h.s, .int .u64 x.1, .int .u64 x.2, .int .i64 0, .sl 2 (R.length - (A.length + 1)) (encs pairA B) .ro]] H = some (.plain (.sl 1 64 (wordsA (splH h x) (fillP (splP h x B)) []) .ro)) := by
        intro H
        have hlL : R.length - A.length = (x :: B).length := by simp; omega
        have hlB : R.length - (A.length + 1) = B.length := by omega
        rw [hlB, splH, if_neg hm, splP, if_neg hm]
        exact L1 H
      rw [ret_loop]
      have fa : ∀ (q : Int) (H : Heap), appV 2 16 (.sl 2 1 [.int .i64 1, .int .u64 to] .e) (.sl 2 1 [.int .i64 q, .int .u64 0] .ro) H = some (.val (.sl 2 2 [.int .i64 1, .int .u64 to, .int .i64 q, .int .u64 0] (.own H.length)), H ++ [.tok 2]) := fun q H => appe _ _ rfl rfl _ _ rfl rfl H
      simp (disch := omega) only [wk, avalE, aactE, evPE, boundE, asNat, bv_seql cellsEq_ii, bv_sneqd cellsEq_ii, readC, allOne, fillL, resE, tupled, ↓reduceIte, Nat.reduceEqDiff, Int.reduceEq, Int.reduceLT, Int.reduceLE, Nat.reduceAdd, Nat.reduceMul, Nat.reduceLT, Nat.reduceLeDiff, reduceCtorEq, hq, fa]
      refine ret_again (by decide) (.inl rfl) ?_
      refine loop_ind (fun (x' : Nat × List (Int × Int) × Int) E df H1 => x'.2.1 ++ splS A.length x'.1 = (1, to) :: splS A.length (B.length + 1) ∧ x'.1 ≤ B.length ∧ x'.2.2 + 1 = (A.length : Int) + x'.1 ∧ E 10 = .int .i64 (A.length : Nat) ∧ E 11 = .ptr 1 0 ∧ E 13 = .int .i64 x'.2.2 ∧ df = [] ∧ Own H1 2 (E 12) x'.2.1.length (encs putA x'.2.1) ∧ (∀ a b c, E 12 ≠ .sl a b c .e) ∧ H1[1]? = some (.cells [.int .i64 (h.m - nmark), .int .i64 h.s, .int .u64 x.1, .int .u64 x.2, .int .i64 0, .sl 2 (R.length - (A.length + 1)) (encs pairA B) .ro]))
        (fun x' => x'.1) (B.length, [(1, to), (2 * ((A.length + B.length : Nat) : Int) + 9, 0)], (R.length : Int) - 1 - 1) (by decide) (.inl rfl) ⟨rfl, Nat.le_refl _, by dsimp only; omega, by simp only [en, ↓reduceIte, Nat.reduceEqDiff], by simp only [en, ↓reduceIte, Nat.reduceEqDiff], by simp only [en, ↓reduceIte, Nat.reduceEqDiff], rfl, ?_, ?_, rfl⟩ ?_
      · simp only [en, ↓reduceIte, Nat.reduceEqDiff]
        refine .inr ⟨by simp, 2, ?_, rfl⟩
        simp [encs_cons, putA, encs_nil]
        omega
      · intro a b c e
        simp only [en, ↓reduceIte, Nat.reduceEqDiff] at e
        cases e
      intro ⟨c, L, J⟩ E df H1 ih hP
      obtain ⟨a1, a2, a3, E10, E11, E13, hdf, ho, hne, hh⟩ := hP
      dsimp only at a1 a2 a3 E13 ho
      subst hdf
      cases c with
      | zero =>
        have nj : ¬ J ≥ (A.length : Int) := by omega
        rw [splS, List.append_nil] at a1
        simp (disch := omega) only [wk, avalE, aactE, evPE, boundE, asNat, bv_seql cellsEq_ii, bv_sneqd cellsEq_ii, readC, allOne, fillL, resE, tupled, ↓reduceIte, Nat.reduceEqDiff, Int.reduceEq, Int.reduceLT, Int.reduceLE, Nat.reduceAdd, Nat.reduceMul, Nat.reduceLT, Nat.reduceLeDiff, reduceCtorEq, E10, E11, E13, nj, hh, La]
        have hlx := own_lend ho hne
        rw [purify_tup ⟨_, _, _, _, rfl⟩]
        simp only [List.map_cons, List.map_nil, hlx, lend_int, lend_ro]
        have hw := hf_words (splH h x) (fillP (splP h x B)) [] rfl
        simp only [AV.hf, hfL, hw, Tk.hf, slvR_hf (f := putA) (fun _ => rfl), Bool.and_self, if_true, resS, ← a1]
      | succ c =>
        have hj : J ≥ (A.length : Int) := by omega
        have hJ : J = (A.length : Int) + c := by omega
        have hLl : L.length ≤ 100 := by
          have := congrArg List.length a1
          simp only [List.length_append, List.length_cons, splS_len] at this
          omega
        have hg : ∀ o : AObj, (H1 ++ [o])[1]? = H1[1]? := fun o => List.getElem?_append_left (List.getElem?_eq_some_iff.1 hh).1
        simp (disch := omega) only [wk, avalE, aactE, evPE, boundE, asNat, bv_seql cellsEq_ii, bv_sneqd cellsEq_ii, readC, allOne, fillL, resE, tupled, ↓reduceIte, Nat.reduceEqDiff, Int.reduceEq, Int.reduceLT, Int.reduceLE, Nat.reduceAdd, Nat.reduceMul, Nat.reduceLT, Nat.reduceLeDiff, reduceCtorEq, E10, E11, E13, hj]
        refine runX_app ho (by omega) (by omega) (by omega) (by omega) rfl rfl (fun H2 r1 r2 r3 => ?_)
        simp (disch := omega) only [wk, avalE, aactE, evPE, boundE, asNat, bv_seql cellsEq_ii, bv_sneqd cellsEq_ii, readC, allOne, fillL, resE, tupled, ↓reduceIte, Nat.reduceEqDiff, Int.reduceEq, Int.reduceLT, Int.reduceLE, Nat.reduceAdd, Nat.reduceMul, Nat.reduceLT, Nat.reduceLeDiff, reduceCtorEq, E10, E11, E13]
        have s1 : encs putA (L ++ [(2 * ((A.length + c : Nat) : Int) + 9, 0)]) = encs putA L ++ [.int .i64 (9 + 2 * J), .int .u64 0] := by
          rw [encs_append, hJ]
          simp [encs_cons, putA, encs_nil]
          omega
        refine ih (c, L ++ [(2 * ((A.length + c : Nat) : Int) + 9, 0)], J - 1) _ _ _ (by simp) ?_
        refine ⟨by rw [← a1, splS]; simp, by dsimp only; omega, by dsimp only; omega, by simp only [en, ↓reduceIte, Nat.reduceEqDiff, E10], by simp only [en, ↓reduceIte, Nat.reduceEqDiff, E11], by simp only [en, ↓reduceIte, Nat.reduceEqDiff], rfl, ?_, ?_, ?_⟩
        · simp only [s1, List.length_append, List.length_cons, List.length_nil, Nat.zero_add]
          simp only [en, ↓reduceIte, Nat.reduceEqDiff]
          exact r1
        · intro a b c' e
          simp only [en, ↓reduceIte, Nat.reduceEqDiff] at e
          cases e
        · exact Kept.cells r2 ho rfl hh (fun s e => by cases e)
end Go.Proofs.Ytailfegmnkldoaa
