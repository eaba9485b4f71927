/- THE WALKS OF Stores. No condition but those stated. -/
import Derived.Test.YtncmflmjlocgiaaN8
set_option linter.unusedSimpArgs false
set_option linter.unusedVariables false
set_option linter.unusedSectionVars false
namespace Go.Proofs.Ytncmflmjlocgiaa
open Go Go.Am Go.Rec Go.Ino
set_option maxHeartbeats 4000000
set_option maxRecDepth 10000
def resP (x : List (Int × Int) × Int) : AV := .tup [slvR 2 putA x.1, .int .i64 x.2]
theorem hf_resP (x : List (Int × Int) × Int) : hfL [slvR 2 putA x.1, .int .i64 x.2] = true := by
  simp [AV.hf, hfL, slvR_hf (f := putA) (fun _ => rfl)]
theorem purify_resP {H : Heap} {v : AV} {l : List (Int × Int)} (h : Own H 2 v l.length (encs putA l)) (hne : ∀ s n c, v ≠ .sl s n c .e) : purify (some (.ret (.tup [v, .int .i64 0]), H)) = some (.plain (resP (l, 0))) := by
  rcases h with ⟨hx, h1, h2⟩ | ⟨h1, g, rfl, hg⟩
  · have hl : l = [] := List.length_eq_zero_iff.1 h1
    subst hl
    rcases hx with rfl | rfl
    · rfl
    · exact absurd rfl (hne _ _ _)
  · have hl : l.isEmpty = false := by cases l with
      | nil => exact absurd rfl h1
      | cons _ _ => rfl
    have e : resP (l, 0) = .tup [.sl 2 l.length (encs putA l) .ro, .int .i64 0] := by
      unfold resP slvR
      rw [hl]; rfl
    rw [e]
    have h : (unownT (.tup [.sl 2 l.length (encs putA l) (.own g), .int .i64 0])).hf = true := by
      simp [unownT, unown, AV.hf, hfL, hf_putA, Tk.hf]
    show (if (unownT (.tup [.sl 2 l.length (encs putA l) (.own g), .int .i64 0])).hf then some (PR.plain (unownT (.tup [.sl 2 l.length (encs putA l) (.own g), .int .i64 0]))) else none) = _
    rw [if_pos h]; rfl
theorem samePuts_pc (l m : List (Int × Int)) (s1 s2 : Nat) (t1 t2 : Tk) (hz1 : l ≠ [] → s1 = 2) (hz2 : m ≠ [] → s2 = 2) (hl : (l.length : Int) < 9223372036854775807) : (cbL tab).pc 25 [.sl s1 l.length (encs putA l) t1, .sl s2 m.length (encs putA m) t2] = some (.plain (.bool (decide (l = m)))) := by
  obtain ⟨u1, e1, f1⟩ := lend_sl s1 l.length (encs putA l) t1
  obtain ⟨u2, e2, f2⟩ := lend_sl s2 m.length (encs putA m) t2
  refine pc_wp (fi := c25) rfl ?_ (by simp [c25]) (by decide) ?_
  · simp only [pcOn, List.map_cons, List.map_nil, hfL, hf_lend_sl, hf_lend_int, hf_lend_bool, hf_lend_str, hfL_append, Bool.and_self, Bool.and_true, Bool.true_and, c25, hf_putA]
  unfold c25
  rw [List.map_cons, List.map_cons, List.map_nil, e1, e2]
  by_cases h : (l.length : Int) = m.length
  case neg =>
    have h' : ¬ l = m := fun e => h (by rw [e])
    simp (disch := omega) only [wk, avalE, aactE, evPE, boundE, asNat, bv_seql cellsEq_ii, bv_sneqd cellsEq_ii, readC, allOne, fillL, resE, tupled, ↓reduceIte, Nat.reduceEqDiff, Int.reduceEq, Int.reduceLT, Int.reduceLE, Nat.reduceAdd, Nat.reduceMul, Nat.reduceLT, Nat.reduceLeDiff, reduceCtorEq, h, purify, unownT, AV.hf, h']
  simp (disch := omega) only [wk, avalE, aactE, evPE, boundE, asNat, bv_seql cellsEq_ii, bv_sneqd cellsEq_ii, readC, allOne, fillL, resE, tupled, ↓reduceIte, Nat.reduceEqDiff, Int.reduceEq, Int.reduceLT, Int.reduceLE, Nat.reduceAdd, Nat.reduceMul, Nat.reduceLT, Nat.reduceLeDiff, reduceCtorEq]
  refine loop_ind (fun (x : List (Int × Int) × List (Int × Int) × List (Int × Int)) E df H => l = x.1 ++ x.2.1 ∧ m = x.1 ++ x.2.2 ∧ E 0 = .sl s1 l.length (encs putA l) u1 ∧ E 1 = .sl s2 m.length (encs putA m) u2 ∧ E 5 = .int .i64 (x.1.length : Nat) ∧ df = [] ∧ H = [])
    (fun x => x.2.1.length) ([], l, m) (by decide) (.inl rfl) ⟨rfl, rfl, rfl, rfl, rfl, rfl, rfl⟩ ?_
  intro ⟨pre, q1, q2⟩ E df H ih hP
  obtain ⟨a1, a2, E0, E1, E5, hdf, hH⟩ := hP
  dsimp only at a1 a2 E5
  subst hdf hH a1 a2
  simp only [List.length_append] at h hl
  cases q1 with
  | nil =>
    cases q2 with
    | nil => simp (disch := omega) only [wk, avalE, aactE, evPE, boundE, asNat, bv_seql cellsEq_ii, bv_sneqd cellsEq_ii, readC, allOne, fillL, resE, tupled, ↓reduceIte, Nat.reduceEqDiff, Int.reduceEq, Int.reduceLT, Int.reduceLE, Nat.reduceAdd, Nat.reduceMul, Nat.reduceLT, Nat.reduceLeDiff, reduceCtorEq, E0, E1, E5, purify, unownT, AV.hf]
    | cons _ _ => exfalso; simp only [List.length_nil, List.length_cons] at h; omega
  | cons x r1 =>
    cases q2 with
    | nil => exfalso; simp only [List.length_nil, List.length_cons] at h; omega
    | cons y r2 =>
      simp only [List.length_cons] at h hl
      obtain rfl := hz1 (by simp)
      obtain rfl := hz2 (by simp)
      obtain ⟨x1, x2⟩ := x
      obtain ⟨y1, y2⟩ := y
      simp (disch := omega) only [wk, avalE, aactE, evPE, boundE, asNat, bv_seql cellsEq_ii, bv_sneqd cellsEq_ii, readC, allOne, fillL, resE, tupled, ↓reduceIte, Nat.reduceEqDiff, Int.reduceEq, Int.reduceLT, Int.reduceLE, Nat.reduceAdd, Nat.reduceMul, Nat.reduceLT, Nat.reduceLeDiff, reduceCtorEq, E0, E1, E5, putA]
      by_cases hxy : x1 = y1 ∧ x2 = y2
      · obtain ⟨rfl, rfl⟩ := hxy
        simp (disch := omega) only [wk, avalE, aactE, evPE, boundE, asNat, bv_seql cellsEq_ii, bv_sneqd cellsEq_ii, readC, allOne, fillL, resE, tupled, ↓reduceIte, Nat.reduceEqDiff, Int.reduceEq, Int.reduceLT, Int.reduceLE, Nat.reduceAdd, Nat.reduceMul, Nat.reduceLT, Nat.reduceLeDiff, reduceCtorEq, E0, E1, E5]
        refine ih (pre ++ [(x1, x2)], r1, r2) _ _ _ (by simp) ?_
        exact ⟨by simp, by simp, by simp only [en, ↓reduceIte, Nat.reduceEqDiff, E0], by simp only [en, ↓reduceIte, Nat.reduceEqDiff, E1], by simp only [en, ↓reduceIte, Nat.reduceEqDiff], rfl, rfl⟩
      · have h' : ¬ (pre ++ (x1, x2) :: r1 = pre ++ (y1, y2) :: r2) := by
          intro e
          simp only [List.append_cancel_left_eq, List.cons.injEq, Prod.mk.injEq] at e
          exact hxy e.1
        simp (disch := omega) only [wk, avalE, aactE, evPE, boundE, asNat, bv_seql cellsEq_ii, bv_sneqd cellsEq_ii, readC, allOne, fillL, resE, tupled, ↓reduceIte, Nat.reduceEqDiff, Int.reduceEq, Int.reduceLT, Int.reduceLE, Nat.reduceAdd, Nat.reduceMul, Nat.reduceLT, Nat.reduceLeDiff, reduceCtorEq, hxy, purify, unownT, AV.hf, h']
/-- The stores that make words others. -/
def difF (at' : Int) : Nat → List Int → List Int → List (Int × Int)
  | j, x :: w, y :: v => if y = x then difF at' (j + 1) w v else (at' + (j : Int), x) :: difF at' (j + 1) w v
  | _, _, _ => []
theorem difF_snoc (at' : Int) (x y : Int) : ∀ (pre pv : List Int) (j : Nat), pre.length = pv.length → difF at' j (pre ++ [x]) (pv ++ [y]) = difF at' j pre pv ++ (if y = x then [] else [(at' + ((j + pre.length : Nat) : Int), x)])
  | [], [], j, _ => by simp [difF]
  | [], _ :: _, _, h => by simp at h
  | _ :: _, [], _, h => by simp at h
  | a :: pre, b :: pv, j, h => by
    have e : j + 1 + pre.length = j + (pre.length + 1) := by omega
    rw [List.cons_append, List.cons_append, difF, difF, difF_snoc at' x y pre pv (j + 1) (by simpa using h), List.length_cons, e]
    split
    · rfl
    · rw [List.cons_append]
theorem difF_len (at' : Int) : ∀ (w v : List Int) (j : Nat), (difF at' j w v).length ≤ w.length
  | [], v, j => by simp [difF]
  | x :: w, [], j => by simp [difF]
  | x :: w, y :: v, j => by
    have := difF_len at' w v (j + 1)
    rw [difF]
    split
    · rw [List.length_cons]; omega
    · rw [List.length_cons, List.length_cons]; omega
def storesI (at' : Int) (v : List Int) (n : Ino) : List (Int × Int) × Int := if okI n ∧ v.length = 16 then (difF at' 0 (wordsI n) v, 0) else ([], 240)
theorem storesI_no {at' : Int} {v : List Int} {n : Ino} (h : ¬ (okI n ∧ v.length = 16)) : storesI at' v n = ([], 240) := if_neg h
theorem storesI_ok {at' : Int} {v : List Int} {n : Ino} (h : okI n) (h' : v.length = 16) : storesI at' v n = (difF at' 0 (wordsI n) v, 0) := if_pos ⟨h, h'⟩
theorem storesI_px (at' : Int) (v : List Int) (s : Nat) (tk : Tk) (n : Ino) (m : AV) (hm : MapR m n.map) (hn : n.map.length ≤ 1000) (H : Heap) (h0 : 0 ≤ at') (h1 : at' ≤ 1099511627776) (hs : v ≠ [] → s = 1) (hv : v.length ≤ 1000) :
    pcx (cbL tab) 45 [.int .i64 at', .sl s v.length (encs u64A v) tk, inoA n m] H = some (.plain (resP (storesI at' v n))) := by
  obtain ⟨u1, e1, f1⟩ := lend_sl s v.length (encs u64A v) tk
  refine pcx_N rfl (pc_wp (fi := c45) rfl ?_ (by simp [c45]) (by decide) ?_)
  · simp only [pcOn, List.map_cons, List.map_nil, hfL, hf_lend_sl, hf_lend_int, hf_lend_bool, hf_lend_str, hfL_append, Bool.and_self, Bool.and_true, Bool.true_and, c45, lend_int, hf_u64A, lend_inoA hm, hf_inoA hm, AV.hf]
  unfold c45
  rw [List.map_cons, List.map_cons, List.map_cons, List.map_nil, e1, lend_inoA hm, lend_int]
  have m1 := hm.one.1
  have m2 := hm.one.2
  have w1 := fun H => words_px n m hm hn H
  have sv : slvR 2 putA [] = .sl 0 0 [] .z := rfl
  by_cases hk : okI n
  case neg =>
    rw [wordsV_no hk] at w1
    rw [storesI_no (fun h => hk h.1)]
    simp only [inoA] at w1 ⊢
    simp (disch := omega) only [wk, avalE, aactE, evPE, boundE, asNat, bv_seql cellsEq_ii, bv_sneqd cellsEq_ii, readC, allOne, fillL, resE, tupled, ↓reduceIte, Nat.reduceEqDiff, Int.reduceEq, Int.reduceLT, Int.reduceLE, Nat.reduceAdd, Nat.reduceMul, Nat.reduceLT, Nat.reduceLeDiff, reduceCtorEq, m1, m2, w1, resP, sv, purify, unownT, unown, AV.hf, hfL, Tk.hf]
  rw [wordsV_ok hk] at w1
  by_cases h16 : v.length = 16
  case neg =>
    rw [storesI_no (fun h => h16 h.2)]
    have h16' : ¬ (v.length : Int) = 16 := by omega
    simp only [inoA] at w1 ⊢
    simp (disch := omega) only [wk, avalE, aactE, evPE, boundE, asNat, bv_seql cellsEq_ii, bv_sneqd cellsEq_ii, readC, allOne, fillL, resE, tupled, ↓reduceIte, Nat.reduceEqDiff, Int.reduceEq, Int.reduceLT, Int.reduceLE, Nat.reduceAdd, Nat.reduceMul, Nat.reduceLT, Nat.reduceLeDiff, reduceCtorEq, m1, m2, w1, h16', resP, sv, purify, unownT, unown, AV.hf, hfL, Tk.hf]
  rw [storesI_ok hk h16]
  have w16 := wordsI_len hk
  have hs1 : s = 1 := hs (by intro e; rw [e] at h16; cases h16)
  subst hs1
  have c16 : ((16 : Nat) : Int) = 16 := rfl
  simp only [inoA] at w1 ⊢
  simp (disch := omega) only [wk, avalE, aactE, evPE, boundE, asNat, bv_seql cellsEq_ii, bv_sneqd cellsEq_ii, readC, allOne, fillL, resE, tupled, ↓reduceIte, Nat.reduceEqDiff, Int.reduceEq, Int.reduceLT, Int.reduceLE, Nat.reduceAdd, Nat.reduceMul, Nat.reduceLT, Nat.reduceLeDiff, reduceCtorEq, m1, m2, w1, h16, c16]
  refine loop_ind (fun (x : List Int × List Int × List Int × List Int) E df H => wordsI n = x.1 ++ x.2.1 ∧ v = x.2.2.1 ++ x.2.2.2 ∧ x.1.length = x.2.2.1.length ∧ Own H 2 (E 6) (difF at' 0 x.1 x.2.2.1).length (encs putA (difF at' 0 x.1 x.2.2.1)) ∧ (∀ s n c, E 6 ≠ .sl s n c .e) ∧ E 0 = .int .i64 at' ∧ E 1 = .sl 1 16 (encs u64A v) u1 ∧ E 23 = .sl 1 16 (encs u64A (wordsI n)) .ro ∧ E 25 = .int .i64 (x.1.length : Nat) ∧ E 24 = .int .i64 16 ∧ df = [])
    (fun x => x.2.1.length) ([], wordsI n, [], v) (by decide) (.inl rfl) ⟨rfl, rfl, rfl, .inl ⟨.inl rfl, rfl, rfl⟩, (by intro s n c h; cases h), rfl, rfl, rfl, rfl, rfl, rfl⟩ ?_
  intro ⟨pre, suf, pv, sv'⟩ E df H ih hP
  obtain ⟨a1, a2, a3, ho, hne, E0, E1, EW, EI, EL, hdf⟩ := hP
  dsimp only at a1 a2 a3 ho EI
  subst hdf
  have l1 : pre.length + suf.length = 16 := by rw [← List.length_append, ← a1, w16]
  have l2 : pv.length + sv'.length = 16 := by rw [← List.length_append, ← a2, h16]
  have ld := difF_len at' pre pv 0
  match suf, sv' with
  | [], _ :: _ => exfalso; simp only [List.length_nil, List.length_cons] at l1 l2; omega
  | _ :: _, [] => exfalso; simp only [List.length_nil, List.length_cons] at l1 l2; omega
  | [], [] =>
    rw [List.append_nil] at a1 a2
    subst a2
    rw [← a1] at ho EI
    have e16 : (((wordsI n).length : Nat) : Int) = 16 := by rw [w16]; rfl
    rw [e16] at EI
    have pu := purify_resP ho hne
    simp (disch := omega) only [wk, avalE, aactE, evPE, boundE, asNat, bv_seql cellsEq_ii, bv_sneqd cellsEq_ii, readC, allOne, fillL, resE, tupled, ↓reduceIte, Nat.reduceEqDiff, Int.reduceEq, Int.reduceLT, Int.reduceLE, Nat.reduceAdd, Nat.reduceMul, Nat.reduceLT, Nat.reduceLeDiff, reduceCtorEq, E0, E1, EW, EI, EL, pu]
  | x :: r, y :: r' =>
    simp only [List.length_cons] at l1 l2
    have n1 : (pre.length : Int) < 16 := by omega
    have d1 := wdrop pre x r []
    have d2 := wdrop pv y r' []
    rw [← a1, List.append_nil, List.append_nil] at d1
    rw [← a2, List.append_nil, List.append_nil, ← a3] at d2
    have sn := difF_snoc at' x y pre pv 0 a3
    rw [Nat.zero_add] at sn
    by_cases hxy : y = x
    · subst hxy
      rw [if_pos rfl, List.append_nil] at sn
      simp (disch := omega) only [wk, avalE, aactE, evPE, boundE, asNat, bv_seql cellsEq_ii, bv_sneqd cellsEq_ii, readC, allOne, fillL, resE, tupled, ↓reduceIte, Nat.reduceEqDiff, Int.reduceEq, Int.reduceLT, Int.reduceLE, Nat.reduceAdd, Nat.reduceMul, Nat.reduceLT, Nat.reduceLeDiff, reduceCtorEq, E0, E1, EW, EI, EL, n1, d1, d2, c16]
      refine ih (pre ++ [y], r, pv ++ [y], r') _ _ _ (by simp) ?_
      refine ⟨by simp [a1], by simp [a2], by simp [a3], ?_, ?_, by simp only [en, ↓reduceIte, Nat.reduceEqDiff, E0], by simp only [en, ↓reduceIte, Nat.reduceEqDiff, E1], by simp only [en, ↓reduceIte, Nat.reduceEqDiff, EW], by simp only [en, ↓reduceIte, Nat.reduceEqDiff], by simp only [en, ↓reduceIte, Nat.reduceEqDiff, EL], rfl⟩
      · dsimp only
        rw [sn]
        simp only [en, ↓reduceIte, Nat.reduceEqDiff]
        exact ho
      · simp only [en, ↓reduceIte, Nat.reduceEqDiff]
        exact hne
    · have hyx : ¬ x = y := fun h => hxy h.symm
      rw [if_neg hxy] at sn
      simp (disch := omega) only [wk, avalE, aactE, evPE, boundE, asNat, bv_seql cellsEq_ii, bv_sneqd cellsEq_ii, readC, allOne, fillL, resE, tupled, ↓reduceIte, Nat.reduceEqDiff, Int.reduceEq, Int.reduceLT, Int.reduceLE, Nat.reduceAdd, Nat.reduceMul, Nat.reduceLT, Nat.reduceLeDiff, reduceCtorEq, E0, E1, EW, EI, EL, n1, d1, d2, c16, hxy]
      refine runX_app ho (by omega) (by omega) (by omega) (by omega) rfl rfl (fun H1 q1 q2 q3 => ?_)
      simp (disch := omega) only [wk, avalE, aactE, evPE, boundE, asNat, bv_seql cellsEq_ii, bv_sneqd cellsEq_ii, readC, allOne, fillL, resE, tupled, ↓reduceIte, Nat.reduceEqDiff, Int.reduceEq, Int.reduceLT, Int.reduceLE, Nat.reduceAdd, Nat.reduceMul, Nat.reduceLT, Nat.reduceLeDiff, reduceCtorEq, EI, EL]
      refine ih (pre ++ [x], r, pv ++ [y], r') _ _ _ (by simp) ?_
      have e : encs putA (difF at' 0 pre pv) ++ [.int .i64 (at' + (pre.length : Int)), .int .u64 x] = encs putA (difF at' 0 (pre ++ [x]) (pv ++ [y])) := by
        rw [sn, encs_append]; rfl
      have e2 : (difF at' 0 pre pv).length + 1 = (difF at' 0 (pre ++ [x]) (pv ++ [y])).length := by rw [sn, List.length_append]; rfl
      rw [e, e2] at q1
      refine ⟨by simp [a1], by simp [a2], by simp [a3], ?_, ?_, by simp only [en, ↓reduceIte, Nat.reduceEqDiff, E0], by simp only [en, ↓reduceIte, Nat.reduceEqDiff, E1], by simp only [en, ↓reduceIte, Nat.reduceEqDiff, EW], by simp only [en, ↓reduceIte, Nat.reduceEqDiff], by simp only [en, ↓reduceIte, Nat.reduceEqDiff, EL], rfl⟩
      · simp only [upd_app, updD_some, updD_none, ↓reduceIte, Nat.reduceEqDiff, if_true, if_false]
        rw [e, e2]
        exact q1
      · simp only [en, ↓reduceIte, Nat.reduceEqDiff]
        intro s n c h
        cases h
end Go.Proofs.Ytncmflmjlocgiaa
