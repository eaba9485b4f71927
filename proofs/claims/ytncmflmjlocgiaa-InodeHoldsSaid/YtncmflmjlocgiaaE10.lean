/- THE WALK OF THE DOCUMENT'S Read. No condition but those stated. -/
import Derived.Test.YtncmflmjlocgiaaE9
set_option linter.unusedSimpArgs false
set_option linter.unusedVariables false
set_option linter.unusedSectionVars false
namespace Go.Proofs.Ytncmflmjlocgiaa
open Go Go.Am Go.Rec Go.Ino
set_option maxHeartbeats 4000000
set_option maxRecDepth 10000
theorem rf016 (w : Int) (h0 : 0 ≤ w) (h1 : w < 18446744073709551616) (H : Heap) : pcx (cbL tab) 97 [.int .u64 w, .int .i64 0, .int .i64 16] H = some (.plain (.int .u64 (w % 65536))) := by
  refine pcx_N rfl (pc_wp (fi := c97) rfl rfl (by simp [c97]) (by decide) ?_)
  unfold c97
  rw [List.map_cons, List.map_cons, List.map_cons, List.map_nil, lend_int, lend_int, lend_int]
  have p1 := fun H => pow0_px H
  have p2 := fun H => pow16_px H
  have e : w / 1 = w := Int.ediv_one w
  simp (disch := omega) only [wk, avalE, aactE, evPE, boundE, asNat, bv_seql cellsEq_ii, bv_sneqd cellsEq_ii, readC, allOne, fillL, resE, tupled, ↓reduceIte, Nat.reduceEqDiff, Int.reduceEq, Int.reduceLT, Int.reduceLE, Nat.reduceAdd, Nat.reduceMul, Nat.reduceLT, Nat.reduceLeDiff, reduceCtorEq, p1, p2, e, purify, unownT, AV.hf]
theorem rf1624 (w : Int) (h0 : 0 ≤ w) (h1 : w < 18446744073709551616) (H : Heap) : pcx (cbL tab) 97 [.int .u64 w, .int .i64 16, .int .i64 24] H = some (.plain (.int .u64 (w / 65536 % 16777216))) := by
  refine pcx_N rfl (pc_wp (fi := c97) rfl rfl (by simp [c97]) (by decide) ?_)
  unfold c97
  rw [List.map_cons, List.map_cons, List.map_cons, List.map_nil, lend_int, lend_int, lend_int]
  have p1 := fun H => pow16_px H
  have p2 := fun H => pow24_px H
  simp (disch := omega) only [wk, avalE, aactE, evPE, boundE, asNat, bv_seql cellsEq_ii, bv_sneqd cellsEq_ii, readC, allOne, fillL, resE, tupled, ↓reduceIte, Nat.reduceEqDiff, Int.reduceEq, Int.reduceLT, Int.reduceLE, Nat.reduceAdd, Nat.reduceMul, Nat.reduceLT, Nat.reduceLeDiff, reduceCtorEq, p1, p2, purify, unownT, AV.hf]
theorem rf4016 (w : Int) (h0 : 0 ≤ w) (h1 : w < 18446744073709551616) (H : Heap) : pcx (cbL tab) 97 [.int .u64 w, .int .i64 40, .int .i64 16] H = some (.plain (.int .u64 (w / 1099511627776 % 65536))) := by
  refine pcx_N rfl (pc_wp (fi := c97) rfl rfl (by simp [c97]) (by decide) ?_)
  unfold c97
  rw [List.map_cons, List.map_cons, List.map_cons, List.map_nil, lend_int, lend_int, lend_int]
  have p1 := fun H => pow40_px H
  have p2 := fun H => pow16_px H
  simp (disch := omega) only [wk, avalE, aactE, evPE, boundE, asNat, bv_seql cellsEq_ii, bv_sneqd cellsEq_ii, readC, allOne, fillL, resE, tupled, ↓reduceIte, Nat.reduceEqDiff, Int.reduceEq, Int.reduceLT, Int.reduceLE, Nat.reduceAdd, Nat.reduceMul, Nat.reduceLT, Nat.reduceLeDiff, reduceCtorEq, p1, p2, purify, unownT, AV.hf]
theorem rread_px (w : List Int) (h10 : w.length = 10) (hw : ∀ x ∈ w, 0 ≤ x ∧ x < 18446744073709551616) (H : Heap) : pcx (cbL tab) 69 [arrV w] H = some (.plain (readV (readR w))) := by
  refine pcx_N rfl (pc_wp (fi := c69) rfl ?_ (by simp [c69]) (by decide) ?_)
  · simp only [pcOn, List.map_cons, List.map_nil, hfL, hf_lend_sl, hf_lend_int, hf_lend_bool, hf_lend_str, hfL_append, Bool.and_self, Bool.and_true, Bool.true_and, c69, lend_arr, hf_arr]
  unfold c69
  rw [List.map_cons, List.map_nil, lend_arr, arrV, z128]
  have o := one_u64A w
  have lw := lenU w
  have tw := tk10 w h10
  simp (disch := omega) only [wk, avalE, aactE, evPE, boundE, asNat, bv_seql cellsEq_ii, bv_sneqd cellsEq_ii, readC, allOne, fillL, resE, tupled, ↓reduceIte, Nat.reduceEqDiff, Int.reduceEq, Int.reduceLT, Int.reduceLE, Nat.reduceAdd, Nat.reduceMul, Nat.reduceLT, Nat.reduceLeDiff, reduceCtorEq, o, flat_arr, lw, h10, tw]
  refine loop_ind (fun (x : List Int × List Int) E df H1 => w = x.1 ++ x.2 ∧ H1[0]? = some (.cells (encs u64A w)) ∧ E 1 = .ptr 0 0 ∧ Own H1 3 (E 4) (readE x.1).length (encs extA (readE x.1)) ∧ (∀ s n c, E 4 ≠ .sl s n c .e) ∧ E 5 = .int .i64 (x.1.length : Nat) ∧ df = [])
    (fun x => x.2.length) ([], w) (by decide) (.inl rfl) ⟨rfl, rfl, rfl, .inl ⟨.inl rfl, rfl, rfl⟩, (by intro s n c h; cases h), rfl, rfl⟩ ?_
  intro ⟨pre, suf⟩ E df H1 ih hP
  obtain ⟨a1, h0, E1, ho, hne, E5, hdf⟩ := hP
  dsimp only at a1 ho E5
  subst hdf
  have hl : w.length = pre.length + suf.length := by rw [a1, List.length_append]
  have hrl := readE_len pre
  cases suf with
  | nil =>
    rw [List.append_nil] at a1
    subst a1
    have n1 : (w.length : Int) = 10 := by omega
    obtain ⟨s, tk, E4, hz⟩ := own_arg ho
    obtain ⟨v, hv, t, b, rfl, hT, hb, _⟩ := rxof_pc (readE w) s [] tk hz rfl (by omega)
    have xo : ∀ H, pcx (cbL tab) 79 [E 4] H = some (.plain (ofV (t, b))) := fun H => by rw [E4]; exact pcx_N rfl hv
    simp only [ofV, tabV] at xo
    have r : readR w = if (ofM (readE w)).isSome = true ∧ wordsE (readE w) = w then (readE w, 0) else ([], 2) := rfl
    have nx : ∀ A : AObj, (H1 ++ [A])[H1.length]? = some A := fun A => by simp
    have stx : ∀ A B : AObj, (H1 ++ [A]).set H1.length B = H1 ++ [B] := fun A B => by simp
    have s10 : 0 < H1.length := (List.getElem?_eq_some_iff.1 h0).1
    have h0a : ∀ A : AObj, (H1 ++ [A])[0]? = some (.cells (encs u64A w)) := fun A => by rw [List.getElem?_append_left s10]; exact h0
    have pn : ∀ H : Heap, purify (some (.ret (.tup [.sl 0 0 [] .z, .int .i64 2]), H)) = some (.plain (readV ([], 2))) := fun H => rfl
    have tl := lenT t
    have tl2 := hT.len
    have td := dr128 t hT
    have tz := lenT t0
    have tz2 := Tab.t0.len
    have tdz := dr128 t0 Tab.t0
    have one := one_i64A t
    cases hs : (ofM (readE w)).isSome with
    | false =>
      rw [hs] at hb r
      subst hb
      have r' : readR w = ([], 2) := by rw [r]; rfl
      simp (disch := omega) only [wk, avalE, aactE, evPE, boundE, asNat, bv_seql cellsEq_ii, bv_sneqd cellsEq_ii, readC, allOne, fillL, resE, tupled, ↓reduceIte, Nat.reduceEqDiff, Int.reduceEq, Int.reduceLT, Int.reduceLE, Nat.reduceAdd, Nat.reduceMul, Nat.reduceLT, Nat.reduceLeDiff, reduceCtorEq, E1, E5, n1, xo, tl, tl2, td, tz, tz2, tdz, one, nx, stx, flat_tab, List.append_nil, pn, r']
    | true =>
      obtain ⟨hl10, hright⟩ := isSome_right hs
      have wl := wordsE_len hl10
      rw [hs] at hb r
      subst hb
      have rw' : ∀ H, pcx (cbL tab) 76 [E 4] H = some (.plain (arrV (wordsE (readE w)))) := fun H => by rw [E4]; exact rwords_px (readE w) s [] tk hz rfl hl10 hright H
      simp only [arrV] at rw'
      have cq := fun xo yo => bv_sneqd (xo := xo) (yo := yo) (ceq10 wl h10)
      by_cases hE : wordsE (readE w) = w
      · have r' : readR w = (readE w, 0) := by rw [r, if_pos ⟨rfl, hE⟩]
        have hq : decide (¬ wordsE (readE w) = w) = false := decide_eq_false (fun h => h hE)
        have ok : Own (H1 ++ [AObj.cells (encs i64A t)]) 3 (E 4) (readE w).length (encs extA (readE w)) := by
          refine ho.kept (g := none) ?_ (.inl rfl)
          intro id o h _
          rw [List.getElem?_append_left (List.getElem?_eq_some_iff.1 h).1]
          exact h
        simp (disch := omega) only [wk, avalE, aactE, evPE, boundE, asNat, bv_seql cellsEq_ii, bv_sneqd cellsEq_ii, readC, allOne, fillL, resE, tupled, ↓reduceIte, Nat.reduceEqDiff, Int.reduceEq, Int.reduceLT, Int.reduceLE, Nat.reduceAdd, Nat.reduceMul, Nat.reduceLT, Nat.reduceLeDiff, reduceCtorEq, E1, E5, n1, xo, tl, tl2, td, tz, tz2, tdz, one, nx, stx, flat_tab, List.append_nil, rw', h0a, lw, h10, tw, cq, hq, r', purify_read ok hne]
      · have r' : readR w = ([], 2) := by rw [r, if_neg (fun h => hE h.2)]
        have hq : decide (wordsE (readE w) = w) = false := decide_eq_false hE
        simp (disch := omega) only [wk, avalE, aactE, evPE, boundE, asNat, bv_seql cellsEq_ii, bv_sneqd cellsEq_ii, readC, allOne, fillL, resE, tupled, ↓reduceIte, Nat.reduceEqDiff, Int.reduceEq, Int.reduceLT, Int.reduceLE, Nat.reduceAdd, Nat.reduceMul, Nat.reduceLT, Nat.reduceLeDiff, reduceCtorEq, E1, E5, n1, xo, tl, tl2, td, tz, tz2, tdz, one, nx, stx, flat_tab, List.append_nil, rw', h0a, lw, h10, tw, cq, hq, pn, r']
  | cons x r =>
    simp only [List.length_cons] at hl
    have n1 : (pre.length : Int) < 10 := by omega
    have g := getU1 pre x r
    rw [← a1] at g
    have hx := hw x (by rw [a1]; simp)
    by_cases hx0 : x = 0
    · subst hx0
      have e : readE (pre ++ [0]) = readE pre := by rw [readE_append]; simp [readE_cons, readE]
      simp (disch := omega) only [wk, avalE, aactE, evPE, boundE, asNat, bv_seql cellsEq_ii, bv_sneqd cellsEq_ii, readC, allOne, fillL, resE, tupled, ↓reduceIte, Nat.reduceEqDiff, Int.reduceEq, Int.reduceLT, Int.reduceLE, Nat.reduceAdd, Nat.reduceMul, Nat.reduceLT, Nat.reduceLeDiff, reduceCtorEq, E1, E5, n1, h0, g, Nat.zero_add]
      refine ih (pre ++ [0], r) _ _ _ (by simp) ?_
      exact ⟨by simp [a1], h0, by simp only [en, ↓reduceIte, Nat.reduceEqDiff, E1], by simp only [en, ↓reduceIte, Nat.reduceEqDiff]; rw [e]; exact ho, by simp only [en, ↓reduceIte, Nat.reduceEqDiff]; exact hne, by simp only [en, ↓reduceIte, Nat.reduceEqDiff], rfl⟩
    · have e : readE (pre ++ [x]) = readE pre ++ [extW x] := by rw [readE_append, readE_cons, if_neg hx0]; rfl
      have p1 := fun H => rf016 x hx.1 hx.2 H
      have p2 := fun H => rf1624 x hx.1 hx.2 H
      have p3 := fun H => rf4016 x hx.1 hx.2 H
      have v1 : IntKind.i64.wrap (x % 65536) = x % 65536 := wrap_i64 (by omega) (by omega)
      have v2 : IntKind.i64.wrap (x / 65536 % 16777216) = x / 65536 % 16777216 := wrap_i64 (by omega) (by omega)
      have v3 : IntKind.i64.wrap (x / 1099511627776 % 65536) = x / 1099511627776 % 65536 := wrap_i64 (by omega) (by omega)
      simp (disch := omega) only [wk, avalE, aactE, evPE, boundE, asNat, bv_seql cellsEq_ii, bv_sneqd cellsEq_ii, readC, allOne, fillL, resE, tupled, ↓reduceIte, Nat.reduceEqDiff, Int.reduceEq, Int.reduceLT, Int.reduceLE, Nat.reduceAdd, Nat.reduceMul, Nat.reduceLT, Nat.reduceLeDiff, reduceCtorEq, E1, E5, n1, h0, g, Nat.zero_add, hx0, p1, p2, p3, v1, v2, v3]
      refine runX_app ho (by omega) (by omega) (by omega) (by omega) rfl rfl (fun H2 q1 q2 q3 => ?_)
      have h02 := q2.cells ho rfl h0 (by intro s h; cases h)
      simp (disch := omega) only [wk, avalE, aactE, evPE, boundE, asNat, bv_seql cellsEq_ii, bv_sneqd cellsEq_ii, readC, allOne, fillL, resE, tupled, ↓reduceIte, Nat.reduceEqDiff, Int.reduceEq, Int.reduceLT, Int.reduceLE, Nat.reduceAdd, Nat.reduceMul, Nat.reduceLT, Nat.reduceLeDiff, reduceCtorEq, E1, E5]
      refine ih (pre ++ [x], r) _ _ _ (by simp) ?_
      have ee : encs extA (readE pre) ++ [.int .i64 (x % 65536), .int .i64 (x / 65536 % 16777216), .int .i64 (x / 1099511627776 % 65536)] = encs extA (readE (pre ++ [x])) := by rw [e, encs_append]; rfl
      have el : (readE pre).length + 1 = (readE (pre ++ [x])).length := by rw [e, List.length_append]; rfl
      rw [ee, el] at q1
      refine ⟨by simp [a1], h02, by simp only [en, ↓reduceIte, Nat.reduceEqDiff, E1], ?_, ?_, by simp only [en, ↓reduceIte, Nat.reduceEqDiff], rfl⟩
      · simp only [upd_app, updD_some, updD_none, ↓reduceIte, Nat.reduceEqDiff, if_true, if_false]
        rw [ee, el]
        exact q1
      · simp only [en, ↓reduceIte, Nat.reduceEqDiff]
        intro s n c h
        cases h
end Go.Proofs.Ytncmflmjlocgiaa
