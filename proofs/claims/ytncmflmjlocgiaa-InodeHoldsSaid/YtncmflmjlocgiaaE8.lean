/- THE WALKS OF A MAP'S WORDS. No condition but those stated. -/
import Derived.Test.YtncmflmjlocgiaaE6
set_option linter.unusedSimpArgs false
set_option linter.unusedVariables false
set_option linter.unusedSectionVars false
namespace Go.Proofs.Ytncmflmjlocgiaa
open Go Go.Am Go.Rec Go.Ino
set_option maxHeartbeats 4000000
set_option maxRecDepth 10000
def errE (l : List Ext) : Int := if (ofM l).isSome then 0 else 2
theorem ofR_tab (l : List Ext) : ∃ t, Tab t ∧ ofR l = (t, (ofM l).isSome) := by
  unfold ofR
  cases h : ofM l with
  | none => exact ⟨t0, Tab.t0, rfl⟩
  | some t => exact ⟨t, layL_tab Tab.t0 (ofM_spec h).2.1, rfl⟩
theorem xcheck_px (l : List Ext) (m : AV) (hm : MapR m l) (hn : l.length ≤ 1000) (H : Heap) : pcx (cbL tab) 105 [m] H = some (.plain (.int .i64 (errE l))) := by
  obtain ⟨s, rest, tk, rfl, hz, hr, htk⟩ := hm
  obtain ⟨u1, e1, f1⟩ := lend_sl s l.length (encs extA l ++ rest) tk
  refine pcx_N rfl (pc_wp (fi := c105) rfl ?_ (by simp [c105]) (by decide) ?_)
  · simp only [pcOn, List.map_cons, List.map_nil, hfL, hf_lend_sl, hf_lend_int, hf_lend_bool, hf_lend_str, hfL_append, Bool.and_self, Bool.and_true, Bool.true_and, c105, hf_extA, hr]
  unfold c105
  rw [List.map_cons, List.map_nil, e1, z128]
  obtain ⟨t, hT, hR⟩ := ofR_tab l
  have p := fun H => xof_px l _ ⟨s, rest, u1, rfl, hz, hr, f1⟩ hn H
  simp only [hR, ofV, tabV] at p
  have tl := lenT t
  have tl2 := hT.len
  have td := dr128 t hT
  have tz := lenT t0
  have tz2 := Tab.t0.len
  have tdz := dr128 t0 Tab.t0
  have one := one_i64A t
  have e : errE l = if (ofM l).isSome then 0 else 2 := rfl
  cases h : (ofM l).isSome <;> rw [h] at p e <;> simp (disch := omega) only [wk, avalE, aactE, evPE, boundE, asNat, bv_seql cellsEq_ii, bv_sneqd cellsEq_ii, readC, allOne, fillL, resE, tupled, ↓reduceIte, Nat.reduceEqDiff, Int.reduceEq, Int.reduceLT, Int.reduceLE, Nat.reduceAdd, Nat.reduceMul, Nat.reduceLT, Nat.reduceLeDiff, reduceCtorEq, p, tl, tl2, td, tz, tz2, tdz, one, flat_tab, e, purify, unownT, AV.hf]
theorem lenU (l : List Int) : (encs u64A l).length = l.length := by rw [encs_length (k := 1), Nat.mul_one]
theorem encs_mapU (t : List Int) : encs u64A t = t.map (AV.int .u64) := by
  induction t with
  | nil => rfl
  | cons x r ih => rw [encs_cons, ih]; rfl
theorem setU (t : List Int) (i : Nat) (v : Int) (h : i < t.length) : List.take i (encs u64A t) ++ [AV.int .u64 v] ++ List.drop (i + 1) (encs u64A t) = encs u64A (t.set i v) := by
  rw [encs_mapU, encs_mapU, List.map_set, List.append_assoc, List.set_eq_take_append_cons_drop, if_pos (by simpa using h)]
  rfl
theorem getU (t : List Int) (i : Nat) (h : i < t.length) : (encs u64A t)[i]? = some (.int .u64 (t.getD i 0)) := by
  rw [encs_mapU, List.getElem?_map, List.getD_eq_getElem?_getD, List.getElem?_eq_getElem h]; rfl
theorem wordsE_set (pre : List Ext) (x : Ext) (h : pre.length < 10) : (wordsE pre).set pre.length (wordE x) = wordsE (pre ++ [x]) := by
  unfold wordsE
  obtain ⟨m, hm⟩ : ∃ m, 10 - pre.length = m + 1 := ⟨9 - pre.length, by omega⟩
  have hm2 : 10 - (pre ++ [x]).length = m := by simp; omega
  rw [hm, hm2, List.set_append_right _ _ (by simp), List.length_map, Nat.sub_self, List.replicate_succ, List.set_cons_zero, List.map_append, List.append_assoc]
  rfl
theorem wordsE_nil : wordsE [] = List.replicate 10 0 := rfl
theorem z10 : List.replicate 10 (AV.int .u64 0) = encs u64A (wordsE []) := by rw [encs_mapU, wordsE_nil, List.map_replicate]
def fieldsA (x : Ext) : List AV := [.int .i64 16, .int .i64 x.1, .int .i64 24, .int .i64 x.2.1, .int .i64 16, .int .i64 x.2.2]
theorem word1_px (x : Ext) (hx : rightM x) (H : Heap) : pcx (cbL tab) 139 [.sl 2 3 [.int .i64 16, .int .i64 x.1, .int .i64 24, .int .i64 x.2.1, .int .i64 16, .int .i64 x.2.2] .ro] H = some (.plain (.int .u64 (wordE x))) := by
  refine pcx_N rfl (pc_wp (fi := c139) rfl rfl (by simp [c139]) (by decide) ?_)
  unfold c139
  have e1 : lend (.sl 2 3 [.int .i64 16, .int .i64 x.1, .int .i64 24, .int .i64 x.2.1, .int .i64 16, .int .i64 x.2.2] .ro) = .sl 2 3 [.int .i64 16, .int .i64 x.1, .int .i64 24, .int .i64 x.2.1, .int .i64 16, .int .i64 x.2.2] .ro := rfl
  rw [List.map_cons, List.map_nil, e1]
  obtain ⟨x1, x2, x3, x4, x5, x6, x7⟩ := hx
  have i3 : ((3 : Nat) : Int) = 3 := rfl
  have i0 : (0 : Int).toNat = 0 := rfl
  have i1 : (1 : Int).toNat = 1 := rfl
  have i2 : (2 : Int).toNat = 2 := rfl
  have ea : (0 : Int) + 1 = 1 := rfl
  have eb : (1 : Int) + 1 = 2 := rfl
  have ec : (2 : Int) + 1 = 3 := rfl
  have f1 : (0 : Int) + 16 = 16 := rfl
  have f2 : (16 : Int) + 24 = 40 := rfl
  have f3 : (40 : Int) + 16 = 56 := rfl
  have v1 : IntKind.u64.wrap x.1 = x.1 := wrap_u64 (by omega) (by omega)
  have v2 : IntKind.u64.wrap x.2.1 = x.2.1 := wrap_u64 (by omega) (by omega)
  have v3 : IntKind.u64.wrap x.2.2 = x.2.2 := wrap_u64 (by omega) (by omega)
  have a1 := fun H => w016 x.1 x1 (by omega) H
  have a2 := fun H => w1624 x.1 x.2.1 x1 (by omega) (by omega) (by omega) H
  have a3 := fun H => w4016 (x.1 + 65536 * x.2.1) x.2.2 (by omega) (by omega) (by omega) (by omega) H
  simp (disch := omega) only [wk, avalE, aactE, evPE, boundE, asNat, bv_seql cellsEq_ii, bv_sneqd cellsEq_ii, readC, allOne, fillL, resE, tupled, ↓reduceIte, Nat.reduceEqDiff, Int.reduceEq, Int.reduceLT, Int.reduceLE, Nat.reduceAdd, Nat.reduceMul, Nat.reduceLT, Nat.reduceLeDiff, reduceCtorEq, i3]
  rw [ret_loop]
  simp (disch := omega) only [wk, avalE, aactE, evPE, boundE, asNat, bv_seql cellsEq_ii, bv_sneqd cellsEq_ii, readC, allOne, fillL, resE, tupled, ↓reduceIte, Nat.reduceEqDiff, Int.reduceEq, Int.reduceLT, Int.reduceLE, Nat.reduceAdd, Nat.reduceMul, Nat.reduceLT, Nat.reduceLeDiff, reduceCtorEq, i3, i0, i1, i2, ea, eb, f1, v1, a1]
  refine ret_again (by decide) (.inl rfl) ?_
  rw [ret_loop]
  simp (disch := omega) only [wk, avalE, aactE, evPE, boundE, asNat, bv_seql cellsEq_ii, bv_sneqd cellsEq_ii, readC, allOne, fillL, resE, tupled, ↓reduceIte, Nat.reduceEqDiff, Int.reduceEq, Int.reduceLT, Int.reduceLE, Nat.reduceAdd, Nat.reduceMul, Nat.reduceLT, Nat.reduceLeDiff, reduceCtorEq, i3, i0, i1, i2, ea, eb, f2, v2, a2]
  refine ret_again (by decide) (.inl rfl) ?_
  rw [ret_loop]
  simp (disch := omega) only [wk, avalE, aactE, evPE, boundE, asNat, bv_seql cellsEq_ii, bv_sneqd cellsEq_ii, readC, allOne, fillL, resE, tupled, ↓reduceIte, Nat.reduceEqDiff, Int.reduceEq, Int.reduceLT, Int.reduceLE, Nat.reduceAdd, Nat.reduceMul, Nat.reduceLT, Nat.reduceLeDiff, reduceCtorEq, i3, i0, i1, i2, ea, eb, ec, f3, v3, a3]
  refine ret_again (by decide) (.inl rfl) ?_
  rw [ret_loop]
  simp (disch := omega) only [wk, avalE, aactE, evPE, boundE, asNat, bv_seql cellsEq_ii, bv_sneqd cellsEq_ii, readC, allOne, fillL, resE, tupled, ↓reduceIte, Nat.reduceEqDiff, Int.reduceEq, Int.reduceLT, Int.reduceLE, Nat.reduceAdd, Nat.reduceMul, Nat.reduceLT, Nat.reduceLeDiff, reduceCtorEq, i3, purify, unownT, AV.hf]
  rfl
def arrV (w : List Int) : AV := .agg (encs u64A w)
def xwR (l : List Ext) : List Int × Int := if (ofM l).isSome then (wordsE l, 0) else (wordsE [], 2)
def xwV (x : List Int × Int) : AV := .tup [arrV x.1, .int .i64 x.2]
theorem flat_arr (t : List Int) : (AV.agg (encs u64A t)).flat = encs u64A t := rfl
theorem purify_xw (w : List Int) (e : Int) (H : Heap) : purify (some (.ret (.tup [.agg (encs u64A w), .int .i64 e]), H)) = some (.plain (xwV (w, e))) := by
  have h : (unownT (.tup [.agg (encs u64A w), .int .i64 e])).hf = true := by
    show ((AV.agg (encs u64A w)).hf && _) = true
    simp [AV.hf, hf_u64A, hfL, unown]
  show (if (unownT (.tup [.agg (encs u64A w), .int .i64 e])).hf then some (PR.plain (unownT (.tup [.agg (encs u64A w), .int .i64 e]))) else none) = _
  rw [if_pos h]; rfl
theorem tk10 (w : List Int) (h : w.length = 10) : List.take 10 (encs u64A w) = encs u64A w := List.take_of_length_le (by rw [lenU, h]; exact Nat.le_refl _)
theorem dr10 (w : List Int) (h : w.length = 10) : List.drop 10 (encs u64A w) = [] := List.drop_of_length_le (by rw [lenU, h]; exact Nat.le_refl _)
theorem isSome_right {l : List Ext} (h : (ofM l).isSome = true) : l.length ≤ 10 ∧ ∀ x ∈ l, rightM x := by
  obtain ⟨t, ht⟩ := Option.isSome_iff_exists.1 h
  obtain ⟨h1, h2, _⟩ := ofM_spec ht
  exact ⟨h1, layL_right h2⟩
theorem xwords_px (l : List Ext) (s : Nat) (rest : List AV) (tk : Tk) (hz : l ≠ [] → s = 3) (hr : hfL rest = true) (hn : l.length ≤ 1000) (H : Heap) :
    pcx (cbL tab) 108 [.sl s l.length (encs extA l ++ rest) tk] H = some (.plain (xwV (xwR l))) := by
  obtain ⟨u1, e1, f1⟩ := lend_sl s l.length (encs extA l ++ rest) tk
  refine pcx_N rfl (pc_wp (fi := c108) rfl ?_ (by simp [c108]) (by decide) ?_)
  · simp only [pcOn, List.map_cons, List.map_nil, hfL, hf_lend_sl, hf_lend_int, hf_lend_bool, hf_lend_str, hfL_append, Bool.and_self, Bool.and_true, Bool.true_and, c108, hf_extA, hr]
  unfold c108
  rw [List.map_cons, List.map_nil, e1, z10]
  have ck := fun H => xcheck_px l _ ⟨s, rest, u1, rfl, hz, hr, f1⟩ hn H
  have ee : errE l = if (ofM l).isSome then 0 else 2 := rfl
  have n10 : (wordsE []).length = 10 := rfl
  have lz := lenU (wordsE [])
  have tz := tk10 (wordsE []) rfl
  have dz := dr10 (wordsE []) rfl
  have oz := one_u64A (wordsE [])
  have pz := fun e H => purify_xw (wordsE []) e H
  cases hs : (ofM l).isSome with
  | false =>
    rw [hs] at ee
    have e : xwR l = (wordsE [], 2) := by unfold xwR; rw [hs]; rfl
    have ee' : errE l = 2 := ee
    rw [ee'] at ck
    simp (disch := omega) only [wk, avalE, aactE, evPE, boundE, asNat, bv_seql cellsEq_ii, bv_sneqd cellsEq_ii, readC, allOne, fillL, resE, tupled, ↓reduceIte, Nat.reduceEqDiff, Int.reduceEq, Int.reduceLT, Int.reduceLE, Nat.reduceAdd, Nat.reduceMul, Nat.reduceLT, Nat.reduceLeDiff, reduceCtorEq, ck, n10, lz, tz, dz, oz, pz, e, flat_arr, List.append_nil]
  | true =>
    rw [hs] at ee
    have e : xwR l = (wordsE l, 0) := by unfold xwR; rw [hs]; rfl
    have ee' : errE l = 0 := ee
    rw [ee'] at ck
    obtain ⟨hl10, hright⟩ := isSome_right hs
    simp (disch := omega) only [wk, avalE, aactE, evPE, boundE, asNat, bv_seql cellsEq_ii, bv_sneqd cellsEq_ii, readC, allOne, fillL, resE, tupled, ↓reduceIte, Nat.reduceEqDiff, Int.reduceEq, Int.reduceLT, Int.reduceLE, Nat.reduceAdd, Nat.reduceMul, Nat.reduceLT, Nat.reduceLeDiff, reduceCtorEq, ck]
    refine loop_ind (fun (x : List Ext × List Ext) E df H1 => l = x.1 ++ x.2 ∧ H1[0]? = some (.cells (encs u64A (wordsE x.1))) ∧ E 2 = .ptr 0 0 ∧ E 3 = .int .i64 0 ∧ E 12 = .sl s l.length (encs extA l ++ rest) u1 ∧ E 13 = .int .i64 (l.length : Nat) ∧ E 14 = .int .i64 (x.1.length : Nat) ∧ df = [])
      (fun x => x.2.length) ([], l) (by decide) (.inl rfl) ⟨rfl, rfl, rfl, rfl, rfl, rfl, rfl, rfl⟩ ?_
    intro ⟨pre, suf⟩ E df H1 ih hP
    obtain ⟨a1, h0, E2, E3, E12, E13, E14, hdf⟩ := hP
    dsimp only at a1 h0 E14
    subst hdf
    have hl : l.length = pre.length + suf.length := by rw [a1, List.length_append]
    have s10 : 0 < H1.length := (List.getElem?_eq_some_iff.1 h0).1
    have wl := wordsE_len (l := pre) (by omega)
    have lw := lenU (wordsE pre)
    cases suf with
    | nil =>
      rw [List.append_nil] at a1
      subst a1
      have tw := tk10 _ wl
      have dw := dr10 _ wl
      have ow := one_u64A (wordsE l)
      have pw := fun e H => purify_xw (wordsE l) e H
      have sg : (H1.set 0 (.cells (encs u64A (wordsE l))))[0]? = some (.cells (encs u64A (wordsE l))) := List.getElem?_set_self s10
      simp (disch := omega) only [wk, avalE, aactE, evPE, boundE, asNat, bv_seql cellsEq_ii, bv_sneqd cellsEq_ii, readC, allOne, fillL, resE, tupled, ↓reduceIte, Nat.reduceEqDiff, Int.reduceEq, Int.reduceLT, Int.reduceLE, Nat.reduceAdd, Nat.reduceMul, Nat.reduceLT, Nat.reduceLeDiff, reduceCtorEq, E2, E3, E12, E13, E14, h0, wl, lw, tw, dw, ow, pw, sg, e, flat_arr, List.append_nil]
    | cons x r =>
      simp only [List.length_cons] at hl
      obtain rfl := hz (by rw [a1]; simp)
      have dd := edrop pre x r rest
      rw [← a1] at dd
      have n1 : (pre.length : Int) < (l.length : Int) := by omega
      have n2 : (pre.length : Int) < 10 := by omega
      have nx : ∀ A : AObj, (H1 ++ [A])[H1.length]? = some A := fun A => by simp
      have stx : ∀ A B : AObj, (H1 ++ [A]).set H1.length B = H1 ++ [B] := fun A B => by simp
      have h0a : ∀ A : AObj, (H1 ++ [A])[0]? = some (.cells (encs u64A (wordsE pre))) := fun A => by rw [List.getElem?_append_left s10]; exact h0
      have wp := fun H => word1_px x (hright x (by rw [a1]; simp)) H
      have su := setU (wordsE pre) pre.length (wordE x) (by omega)
      rw [wordsE_set pre x (by omega)] at su
      simp (disch := omega) only [wk, avalE, aactE, evPE, boundE, asNat, bv_seql cellsEq_ii, bv_sneqd cellsEq_ii, readC, allOne, fillL, resE, tupled, ↓reduceIte, Nat.reduceEqDiff, Int.reduceEq, Int.reduceLT, Int.reduceLE, Nat.reduceAdd, Nat.reduceMul, Nat.reduceLT, Nat.reduceLeDiff, reduceCtorEq, E2, E3, E12, E13, E14, n1, n2, dd, nx, stx, h0a, wp, lw, wl, su, Nat.zero_add]
      refine ih (pre ++ [x], r) _ _ _ (by simp) ?_
      exact ⟨by simp [a1], List.getElem?_set_self (by simp), by simp only [en, ↓reduceIte, Nat.reduceEqDiff, E2], by simp only [en, ↓reduceIte, Nat.reduceEqDiff, E3], by simp only [en, ↓reduceIte, Nat.reduceEqDiff, E12], by simp only [en, ↓reduceIte, Nat.reduceEqDiff, E13], by simp only [en, ↓reduceIte, Nat.reduceEqDiff], rfl⟩
theorem pcx_ev60 {f : FuncId} {args : List AV} {n : Int} (hl : (cbL tab).lent f = false) (h : isPlain ((cbs tab 60).pc f args) n = true) (H : Heap) : pcx (cbL tab) f args H = some (.plain (.int .u64 n)) := pcx_N hl (cbL_pc.2 ⟨60, isPlain_eq h⟩)
theorem pow16_px (H : Heap) : pcx (cbL tab) 122 [.int .i64 16] H = some (.plain (.int .u64 65536)) := pcx_ev60 rfl (by kernel_rfl) H
theorem pow0_px (H : Heap) : pcx (cbL tab) 122 [.int .i64 0] H = some (.plain (.int .u64 1)) := pcx_ev60 rfl (by kernel_rfl) H
theorem pow40_px (H : Heap) : pcx (cbL tab) 122 [.int .i64 40] H = some (.plain (.int .u64 1099511627776)) := pcx_ev60 rfl (by kernel_rfl) H
theorem pow24_px (H : Heap) : pcx (cbL tab) 122 [.int .i64 24] H = some (.plain (.int .u64 16777216)) := pcx_ev60 rfl (by kernel_rfl) H
theorem rwords_px (l : List Ext) (s : Nat) (rest : List AV) (tk : Tk) (hz : l ≠ [] → s = 3) (hr : hfL rest = true) (hn : l.length ≤ 10) (hright : ∀ x ∈ l, rightM x) (H : Heap) :
    pcx (cbL tab) 76 [.sl s l.length (encs extA l ++ rest) tk] H = some (.plain (arrV (wordsE l))) := by
  obtain ⟨u1, e1, f1⟩ := lend_sl s l.length (encs extA l ++ rest) tk
  refine pcx_N rfl (pc_wp (fi := c76) rfl ?_ (by simp [c76]) (by decide) ?_)
  · simp only [pcOn, List.map_cons, List.map_nil, hfL, hf_lend_sl, hf_lend_int, hf_lend_bool, hf_lend_str, hfL_append, Bool.and_self, Bool.and_true, Bool.true_and, c76, hf_extA, hr]
  unfold c76
  rw [List.map_cons, List.map_nil, e1, z10]
  simp (disch := omega) only [wk, avalE, aactE, evPE, boundE, asNat, bv_seql cellsEq_ii, bv_sneqd cellsEq_ii, readC, allOne, fillL, resE, tupled, ↓reduceIte, Nat.reduceEqDiff, Int.reduceEq, Int.reduceLT, Int.reduceLE, Nat.reduceAdd, Nat.reduceMul, Nat.reduceLT, Nat.reduceLeDiff, reduceCtorEq]
  refine loop_ind (fun (x : List Ext × List Ext) E df H1 => l = x.1 ++ x.2 ∧ H1 = [.cells (encs u64A (wordsE [])), .cells (encs u64A (wordsE x.1))] ∧ E 0 = .sl s l.length (encs extA l ++ rest) u1 ∧ E 2 = .ptr 0 0 ∧ E 3 = .ptr 1 0 ∧ E 4 = .int .i64 (x.1.length : Nat) ∧ df = [])
    (fun x => x.2.length) ([], l) (by decide) (.inl rfl) ⟨rfl, rfl, rfl, rfl, rfl, rfl, rfl⟩ ?_
  intro ⟨pre, suf⟩ E df H1 ih hP
  obtain ⟨a1, h0, E0, E2, E3, E4, hdf⟩ := hP
  dsimp only at a1 h0 E4
  subst hdf h0
  have hl : l.length = pre.length + suf.length := by rw [a1, List.length_append]
  have wl := wordsE_len (l := pre) (by omega)
  have lw := lenU (wordsE pre)
  cases suf with
  | nil =>
    rw [List.append_nil] at a1
    subst a1
    have tw := tk10 _ wl
    have ow := one_u64A (wordsE l)
    have n10 : (wordsE []).length = 10 := rfl
    have lz := lenU (wordsE [])
    have dz := dr10 (wordsE []) rfl
    have hh : hfL (encs u64A (wordsE l)) = true := hf_u64A _
    have ar : arrV (wordsE l) = .agg (encs u64A (wordsE l)) := rfl
    simp (disch := omega) only [wk, avalE, aactE, evPE, boundE, asNat, bv_seql cellsEq_ii, bv_sneqd cellsEq_ii, readC, allOne, fillL, resE, tupled, ↓reduceIte, Nat.reduceEqDiff, Int.reduceEq, Int.reduceLT, Int.reduceLE, Nat.reduceAdd, Nat.reduceMul, Nat.reduceLT, Nat.reduceLeDiff, reduceCtorEq, E0, E2, E3, E4, wl, lw, tw, ow, n10, lz, dz, ar, flat_arr, List.append_nil, purify, unownT, unown, AV.hf, hh]
  | cons x r =>
    simp only [List.length_cons] at hl
    obtain rfl := hz (by rw [a1]; simp)
    have dd := edrop pre x r rest
    rw [← a1] at dd
    have n1 : (pre.length : Int) < (l.length : Int) := by omega
    have n2 : (pre.length : Int) < 10 := by omega
    obtain ⟨x1, x2, x3, x4, x5, x6, x7⟩ := hright x (by rw [a1]; simp)
    have v1 : IntKind.u64.wrap x.1 = x.1 := wrap_u64 (by omega) (by omega)
    have v2 : IntKind.u64.wrap x.2.1 = x.2.1 := wrap_u64 (by omega) (by omega)
    have v3 : IntKind.u64.wrap x.2.2 = x.2.2 := wrap_u64 (by omega) (by omega)
    have ew : x.1 + x.2.1 * 65536 + x.2.2 * 1099511627776 = wordE x := by unfold wordE; omega
    have su := setU (wordsE pre) pre.length (wordE x) (by omega)
    rw [wordsE_set pre x (by omega)] at su
    have q1 := fun H => pow16_px H
    have q2 := fun H => pow40_px H
    simp (disch := omega) only [wk, avalE, aactE, evPE, boundE, asNat, bv_seql cellsEq_ii, bv_sneqd cellsEq_ii, readC, allOne, fillL, resE, tupled, ↓reduceIte, Nat.reduceEqDiff, Int.reduceEq, Int.reduceLT, Int.reduceLE, Nat.reduceAdd, Nat.reduceMul, Nat.reduceLT, Nat.reduceLeDiff, reduceCtorEq, E0, E2, E3, E4, n1, n2, dd, v1, v2, v3, q1, q2, ew, lw, wl, su, Nat.zero_add]
    refine ih (pre ++ [x], r) _ _ _ (by simp) ?_
    exact ⟨by simp [a1], rfl, by simp only [en, ↓reduceIte, Nat.reduceEqDiff, E0], by simp only [en, ↓reduceIte, Nat.reduceEqDiff, E2], by simp only [en, ↓reduceIte, Nat.reduceEqDiff, E3], by simp only [en, ↓reduceIte, Nat.reduceEqDiff], rfl⟩
end Go.Proofs.Ytncmflmjlocgiaa
