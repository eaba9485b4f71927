/- THE WALKS OF THE MAP OF WORDS. No condition but those stated. -/
import Derived.Test.YtncmflmjlocgiaaE8
set_option linter.unusedSimpArgs false
set_option linter.unusedVariables false
set_option linter.unusedSectionVars false
namespace Go.Proofs.Ytncmflmjlocgiaa
open Go Go.Am Go.Rec Go.Ino
set_option maxHeartbeats 4000000
set_option maxRecDepth 10000
/-- The map of words, or that it is none. -/
def readR (w : List Int) : List Ext × Int := if (ofM (readE w)).isSome = true ∧ wordsE (readE w) = w then (readE w, 0) else ([], 2)
def readV (x : List Ext × Int) : AV := .tup [slvR 3 extA x.1, .int .i64 x.2]
theorem ceq_u : ∀ (a b : List Int), a.length = b.length → cellsEq (List.replicate a.length 0) (encs u64A a) (encs u64A b) = some (decide (a = b))
  | [], [], _ => rfl
  | [], _ :: _, h => by simp at h
  | _ :: _, [], h => by simp at h
  | x :: a, y :: b, h => by
    have ih := ceq_u a b (by simpa using h)
    rw [List.length_cons, List.replicate_succ]
    show (match cellEq 0 (.int .u64 x) (.int .u64 y) with | some true => cellsEq (List.replicate a.length 0) (encs u64A a) (encs u64A b) | some false => some false | none => none) = _
    by_cases hxy : x = y
    · have h1 : (x == y) = true := by simp [hxy]
      simp only [cellEq, if_true, h1, ih]
      simp [hxy]
    · have h1 : (x == y) = false := by simp [hxy]
      simp only [cellEq, if_true, h1]
      simp [hxy]
theorem ceq10 {a b : List Int} (ha : a.length = 10) (hb : b.length = 10) : cellsEq [0, 0, 0, 0, 0, 0, 0, 0, 0, 0] (encs u64A a) (encs u64A b) = some (decide (a = b)) := by
  have := ceq_u a b (by omega)
  rw [ha] at this
  exact this
theorem readE_cons (w : Int) (r : List Int) : readE (w :: r) = if w = 0 then readE r else extW w :: readE r := by
  unfold readE
  by_cases h : w = 0
  · simp [h]
  · simp [h]
theorem readE_append (a b : List Int) : readE (a ++ b) = readE a ++ readE b := by
  unfold readE
  rw [List.filter_append, List.map_append]
theorem readE_len (a : List Int) : (readE a).length ≤ a.length := by
  unfold readE
  rw [List.length_map]
  exact List.length_filter_le _ _
theorem lend_arr (w : List Int) : lend (arrV w) = arrV w := by
  show AV.agg ((encs u64A w).map unown) = AV.agg (encs u64A w)
  rw [encs_mapU, List.map_map]
  congr 1
theorem hf_arr (w : List Int) : (arrV w).hf = true := by simp [arrV, AV.hf, hf_u64A]
theorem getU1 (pre : List Int) (d : Int) (r : List Int) : (encs u64A (pre ++ d :: r))[pre.length]? = some (.int .u64 d) := by
  rw [encs_append, List.getElem?_append_right (by rw [lenU]; exact Nat.le_refl _), lenU, Nat.sub_self]; rfl
theorem purify_read {H : Heap} {v : AV} {l : List Ext} (h : Own H 3 v l.length (encs extA l)) (hne : ∀ s n c, v ≠ .sl s n c .e) : purify (some (.ret (.tup [v, .int .i64 0]), H)) = some (.plain (readV (l, 0))) := by
  rcases h with ⟨hx, h1, h2⟩ | ⟨h1, g, rfl, hg⟩
  · have hl : l = [] := List.length_eq_zero_iff.1 h1
    subst hl
    rcases hx with rfl | rfl
    · rfl
    · exact absurd rfl (hne _ _ _)
  · have hl : l.isEmpty = false := by cases l with
      | nil => exact absurd rfl h1
      | cons _ _ => rfl
    have e : readV (l, 0) = .tup [.sl 3 l.length (encs extA l) .ro, .int .i64 0] := by
      unfold readV slvR
      rw [hl]; rfl
    rw [e]
    have h : (unownT (.tup [.sl 3 l.length (encs extA l) (.own g), .int .i64 0])).hf = true := by
      simp [unownT, unown, AV.hf, hfL, hf_extA, Tk.hf]
    show (if (unownT (.tup [.sl 3 l.length (encs extA l) (.own g), .int .i64 0])).hf then some (PR.plain (unownT (.tup [.sl 3 l.length (encs extA l) (.own g), .int .i64 0]))) else none) = _
    rw [if_pos h]; rfl
/-- An own row, as an argument. -/
theorem own_arg {H : Heap} {v : AV} {l : List Ext} (h : Own H 3 v l.length (encs extA l)) : ∃ s tk, v = .sl s l.length (encs extA l ++ []) tk ∧ (l ≠ [] → s = 3) := by
  rcases h with ⟨hx, h1, h2⟩ | ⟨h1, g, rfl, hg⟩
  · have hl : l = [] := List.length_eq_zero_iff.1 h1
    subst hl
    rcases hx with rfl | rfl
    · exact ⟨_, _, rfl, fun h => absurd rfl h⟩
    · exact ⟨_, _, rfl, fun h => absurd rfl h⟩
  · exact ⟨3, _, by rw [List.append_nil], fun _ => rfl⟩
theorem xread_px (w : List Int) (h10 : w.length = 10) (hw : ∀ x ∈ w, 0 ≤ x ∧ x < 18446744073709551616) (H : Heap) : pcx (cbL tab) 111 [arrV w] H = some (.plain (readV (readR w))) := by
  refine pcx_N rfl (pc_wp (fi := c111) rfl ?_ (by simp [c111]) (by decide) ?_)
  · simp only [pcOn, List.map_cons, List.map_nil, hfL, hf_lend_sl, hf_lend_int, hf_lend_bool, hf_lend_str, hfL_append, Bool.and_self, Bool.and_true, Bool.true_and, c111, lend_arr, hf_arr]
  unfold c111
  rw [List.map_cons, List.map_nil, lend_arr, arrV, z10]
  have o := one_u64A w
  have lw := lenU w
  have tw := tk10 w h10
  simp (disch := omega) only [wk, avalE, aactE, evPE, boundE, asNat, bv_seql cellsEq_ii, bv_sneqd cellsEq_ii, readC, allOne, fillL, resE, tupled, ↓reduceIte, Nat.reduceEqDiff, Int.reduceEq, Int.reduceLT, Int.reduceLE, Nat.reduceAdd, Nat.reduceMul, Nat.reduceLT, Nat.reduceLeDiff, reduceCtorEq, o, flat_arr, lw, h10, tw]
  refine loop_ind (fun (x : List Int × List Int) E df H1 => w = x.1 ++ x.2 ∧ H1[0]? = some (.cells (encs u64A w)) ∧ E 1 = .ptr 0 0 ∧ Own H1 3 (E 4) (readE x.1).length (encs extA (readE x.1)) ∧ (∀ s n c, E 4 ≠ .sl s n c .e) ∧ E 15 = .agg (encs u64A w) ∧ E 16 = .int .i64 (x.1.length : Nat) ∧ df = [])
    (fun x => x.2.length) ([], w) (by decide) (.inl rfl) ⟨rfl, rfl, rfl, .inl ⟨.inl rfl, rfl, rfl⟩, (by intro s n c h; cases h), rfl, rfl, rfl⟩ ?_
  intro ⟨pre, suf⟩ E df H1 ih hP
  obtain ⟨a1, h0, E1, ho, hne, E15, E16, hdf⟩ := hP
  dsimp only at a1 ho E16
  subst hdf
  have hl : w.length = pre.length + suf.length := by rw [a1, List.length_append]
  have hrl := readE_len pre
  cases suf with
  | nil =>
    rw [List.append_nil] at a1
    subst a1
    have n1 : (w.length : Int) = 10 := by omega
    obtain ⟨s, tk, E4, hz⟩ := own_arg ho
    have xw := fun H => xwords_px (readE w) s [] tk hz rfl (by omega) H
    have e : xwR (readE w) = if (ofM (readE w)).isSome then (wordsE (readE w), 0) else (wordsE [], 2) := rfl
    have r : readR w = if (ofM (readE w)).isSome = true ∧ wordsE (readE w) = w then (readE w, 0) else ([], 2) := rfl
    rw [← E4] at xw
    have n10 : (wordsE []).length = 10 := rfl
    have lz := lenU (wordsE [])
    have dz := dr10 (wordsE []) rfl
    have nx : ∀ A : AObj, (H1 ++ [A])[H1.length]? = some A := fun A => by simp
    have stx : ∀ A B : AObj, (H1 ++ [A]).set H1.length B = H1 ++ [B] := fun A B => by simp
    have s10 : 0 < H1.length := (List.getElem?_eq_some_iff.1 h0).1
    have h0a : ∀ A : AObj, (H1 ++ [A])[0]? = some (.cells (encs u64A w)) := fun A => by rw [List.getElem?_append_left s10]; exact h0
    have pn : ∀ H : Heap, purify (some (.ret (.tup [.sl 0 0 [] .z, .int .i64 2]), H)) = some (.plain (readV ([], 2))) := fun H => rfl
    cases hs : (ofM (readE w)).isSome with
    | false =>
      rw [hs] at e r
      have r' : readR w = ([], 2) := by rw [r]; rfl
      have e' : xwR (readE w) = (wordsE [], 2) := by rw [e]; rfl
      rw [e'] at xw
      simp only [xwV, arrV] at xw
      simp (disch := omega) only [wk, avalE, aactE, evPE, boundE, asNat, bv_seql cellsEq_ii, bv_sneqd cellsEq_ii, readC, allOne, fillL, resE, tupled, ↓reduceIte, Nat.reduceEqDiff, Int.reduceEq, Int.reduceLT, Int.reduceLE, Nat.reduceAdd, Nat.reduceMul, Nat.reduceLT, Nat.reduceLeDiff, reduceCtorEq, E1, E15, E16, n1, xw, n10, lz, dz, nx, stx, flat_arr, one_u64A, List.append_nil, pn, r']
    | true =>
      obtain ⟨hl10, hright⟩ := isSome_right hs
      have wl := wordsE_len hl10
      have lw2 := lenU (wordsE (readE w))
      have dw2 := dr10 _ wl
      have tw2 := tk10 _ wl
      rw [hs] at e r
      have e' : xwR (readE w) = (wordsE (readE w), 0) := by rw [e]; rfl
      rw [e'] at xw
      simp only [xwV, arrV] at xw
      have cq := fun xo yo => bv_sneqd (xo := xo) (yo := yo) (ceq10 wl h10)
      by_cases hE : wordsE (readE w) = w
      · have r' : readR w = (readE w, 0) := by rw [r, if_pos ⟨rfl, hE⟩]
        have hq : decide (¬ wordsE (readE w) = w) = false := decide_eq_false (fun h => h hE)
        have ok : Own (H1 ++ [AObj.cells (encs u64A (wordsE (readE w)))]) 3 (E 4) (readE w).length (encs extA (readE w)) := by
          refine ho.kept (g := none) ?_ (.inl rfl)
          intro id o h _
          rw [List.getElem?_append_left (List.getElem?_eq_some_iff.1 h).1]
          exact h
        simp (disch := omega) only [wk, avalE, aactE, evPE, boundE, asNat, bv_seql cellsEq_ii, bv_sneqd cellsEq_ii, readC, allOne, fillL, resE, tupled, ↓reduceIte, Nat.reduceEqDiff, Int.reduceEq, Int.reduceLT, Int.reduceLE, Nat.reduceAdd, Nat.reduceMul, Nat.reduceLT, Nat.reduceLeDiff, reduceCtorEq, E1, E15, E16, n1, xw, n10, lz, dz, nx, stx, h0a, wl, lw2, dw2, tw2, lw, tw, flat_arr, one_u64A, List.append_nil, cq, hq, r', purify_read ok hne]
      · have r' : readR w = ([], 2) := by rw [r, if_neg (fun h => hE h.2)]
        have hq : decide (wordsE (readE w) = w) = false := decide_eq_false hE
        simp (disch := omega) only [wk, avalE, aactE, evPE, boundE, asNat, bv_seql cellsEq_ii, bv_sneqd cellsEq_ii, readC, allOne, fillL, resE, tupled, ↓reduceIte, Nat.reduceEqDiff, Int.reduceEq, Int.reduceLT, Int.reduceLE, Nat.reduceAdd, Nat.reduceMul, Nat.reduceLT, Nat.reduceLeDiff, reduceCtorEq, E1, E15, E16, n1, xw, n10, lz, dz, nx, stx, h0a, wl, lw2, dw2, tw2, lw, h10, tw, flat_arr, one_u64A, List.append_nil, cq, hq, pn, r']
  | cons x r =>
    simp only [List.length_cons] at hl
    have n1 : (pre.length : Int) < 10 := by omega
    have g := getU1 pre x r
    rw [← a1] at g
    have hx := hw x (by rw [a1]; simp)
    by_cases hx0 : x = 0
    · subst hx0
      have e : readE (pre ++ [0]) = readE pre := by rw [readE_append]; simp [readE_cons, readE]
      simp (disch := omega) only [wk, avalE, aactE, evPE, boundE, asNat, bv_seql cellsEq_ii, bv_sneqd cellsEq_ii, readC, allOne, fillL, resE, tupled, ↓reduceIte, Nat.reduceEqDiff, Int.reduceEq, Int.reduceLT, Int.reduceLE, Nat.reduceAdd, Nat.reduceMul, Nat.reduceLT, Nat.reduceLeDiff, reduceCtorEq, E1, E15, E16, n1, g, Nat.zero_add]
      refine ih (pre ++ [0], r) _ _ _ (by simp) ?_
      exact ⟨by simp [a1], h0, by simp only [en, ↓reduceIte, Nat.reduceEqDiff, E1], by simp only [en, ↓reduceIte, Nat.reduceEqDiff]; rw [e]; exact ho, by simp only [en, ↓reduceIte, Nat.reduceEqDiff]; exact hne, by simp only [en, ↓reduceIte, Nat.reduceEqDiff, E15], by simp only [en, ↓reduceIte, Nat.reduceEqDiff], rfl⟩
    · have e : readE (pre ++ [x]) = readE pre ++ [extW x] := by rw [readE_append, readE_cons, if_neg hx0]; rfl
      have p1 := fun H => f016 x hx.1 hx.2 H
      have p2 := fun H => f1624 x hx.1 hx.2 H
      have p3 := fun H => f4016 x hx.1 hx.2 H
      have v1 : IntKind.i64.wrap (x % 65536) = x % 65536 := wrap_i64 (by omega) (by omega)
      have v2 : IntKind.i64.wrap (x / 65536 % 16777216) = x / 65536 % 16777216 := wrap_i64 (by omega) (by omega)
      have v3 : IntKind.i64.wrap (x / 1099511627776 % 65536) = x / 1099511627776 % 65536 := wrap_i64 (by omega) (by omega)
      simp (disch := omega) only [wk, avalE, aactE, evPE, boundE, asNat, bv_seql cellsEq_ii, bv_sneqd cellsEq_ii, readC, allOne, fillL, resE, tupled, ↓reduceIte, Nat.reduceEqDiff, Int.reduceEq, Int.reduceLT, Int.reduceLE, Nat.reduceAdd, Nat.reduceMul, Nat.reduceLT, Nat.reduceLeDiff, reduceCtorEq, E1, E15, E16, n1, g, Nat.zero_add, hx0, p1, p2, p3, v1, v2, v3]
      refine runX_app ho (by omega) (by omega) (by omega) (by omega) rfl rfl (fun H2 q1 q2 q3 => ?_)
      have h02 := q2.cells ho rfl h0 (by intro s h; cases h)
      simp (disch := omega) only [wk, avalE, aactE, evPE, boundE, asNat, bv_seql cellsEq_ii, bv_sneqd cellsEq_ii, readC, allOne, fillL, resE, tupled, ↓reduceIte, Nat.reduceEqDiff, Int.reduceEq, Int.reduceLT, Int.reduceLE, Nat.reduceAdd, Nat.reduceMul, Nat.reduceLT, Nat.reduceLeDiff, reduceCtorEq, E1, E15, E16]
      refine ih (pre ++ [x], r) _ _ _ (by simp) ?_
      have ee : encs extA (readE pre) ++ [.int .i64 (x % 65536), .int .i64 (x / 65536 % 16777216), .int .i64 (x / 1099511627776 % 65536)] = encs extA (readE (pre ++ [x])) := by rw [e, encs_append]; rfl
      have el : (readE pre).length + 1 = (readE (pre ++ [x])).length := by rw [e, List.length_append]; rfl
      rw [ee, el] at q1
      refine ⟨by simp [a1], h02, by simp only [en, ↓reduceIte, Nat.reduceEqDiff, E1], ?_, ?_, by simp only [en, ↓reduceIte, Nat.reduceEqDiff, E15], by simp only [en, ↓reduceIte, Nat.reduceEqDiff], rfl⟩
      · simp only [upd_app, updD_some, updD_none, ↓reduceIte, Nat.reduceEqDiff, if_true, if_false]
        rw [ee, el]
        exact q1
      · simp only [en, ↓reduceIte, Nat.reduceEqDiff]
        intro s n c h
        cases h
end Go.Proofs.Ytncmflmjlocgiaa
