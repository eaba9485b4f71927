/- THE WALKS OF THE DOCUMENT'S MAPS. No condition but those stated. -/
import Derived.Test.YtncmflmjlocgiaaE4
set_option linter.unusedSimpArgs false
set_option linter.unusedVariables false
set_option linter.unusedSectionVars false
namespace Go.Proofs.Ytncmflmjlocgiaa
open Go Go.Am Go.Rec Go.Ino
set_option maxHeartbeats 4000000
set_option maxRecDepth 10000
theorem rright_px (x : Ext) (H : Heap) : pcx (cbL tab) 123 [extV x] H = some (.plain (.bool (decide (rightM x)))) := by
  refine pcx_N rfl (pc_wp (fi := c123) rfl rfl (by simp [c123]) (by decide) ?_)
  unfold c123
  rw [List.map_cons, List.map_nil, lend_extV, extV, cellsX]
  have e : rightM x ↔ 0 ≤ x.1 ∧ x.1 < 128 ∧ 1 ≤ x.2.2 ∧ x.2.2 ≤ 128 - x.1 ∧ 1 ≤ x.2.1 ∧ x.2.1 < 2048 ∧ x.2.2 ≤ 2048 - x.2.1 := Iff.rfl
  by_cases c1 : 0 ≤ x.1
  case neg =>
    have : ¬ rightM x := by rw [e]; omega
    simp (disch := omega) only [wk, avalE, aactE, evPE, boundE, asNat, bv_seql cellsEq_ii, bv_sneqd cellsEq_ii, readC, allOne, fillL, resE, tupled, ↓reduceIte, Nat.reduceEqDiff, Int.reduceEq, Int.reduceLT, Int.reduceLE, Nat.reduceAdd, Nat.reduceMul, Nat.reduceLT, Nat.reduceLeDiff, reduceCtorEq, c1, this, purify, unownT, AV.hf]
  by_cases c2 : x.1 < 128
  case neg =>
    have : ¬ rightM x := by rw [e]; omega
    simp (disch := omega) only [wk, avalE, aactE, evPE, boundE, asNat, bv_seql cellsEq_ii, bv_sneqd cellsEq_ii, readC, allOne, fillL, resE, tupled, ↓reduceIte, Nat.reduceEqDiff, Int.reduceEq, Int.reduceLT, Int.reduceLE, Nat.reduceAdd, Nat.reduceMul, Nat.reduceLT, Nat.reduceLeDiff, reduceCtorEq, c1, c2, this, purify, unownT, AV.hf]
  by_cases c3 : 1 ≤ x.2.2
  case neg =>
    have : ¬ rightM x := by rw [e]; omega
    simp (disch := omega) only [wk, avalE, aactE, evPE, boundE, asNat, bv_seql cellsEq_ii, bv_sneqd cellsEq_ii, readC, allOne, fillL, resE, tupled, ↓reduceIte, Nat.reduceEqDiff, Int.reduceEq, Int.reduceLT, Int.reduceLE, Nat.reduceAdd, Nat.reduceMul, Nat.reduceLT, Nat.reduceLeDiff, reduceCtorEq, c1, c2, c3, this, purify, unownT, AV.hf]
  by_cases c4 : x.2.2 ≤ 128 - x.1
  case neg =>
    have : ¬ rightM x := by rw [e]; omega
    simp (disch := omega) only [wk, avalE, aactE, evPE, boundE, asNat, bv_seql cellsEq_ii, bv_sneqd cellsEq_ii, readC, allOne, fillL, resE, tupled, ↓reduceIte, Nat.reduceEqDiff, Int.reduceEq, Int.reduceLT, Int.reduceLE, Nat.reduceAdd, Nat.reduceMul, Nat.reduceLT, Nat.reduceLeDiff, reduceCtorEq, c1, c2, c3, c4, this, purify, unownT, AV.hf]
  by_cases c5 : 1 ≤ x.2.1
  case neg =>
    have : ¬ rightM x := by rw [e]; omega
    simp (disch := omega) only [wk, avalE, aactE, evPE, boundE, asNat, bv_seql cellsEq_ii, bv_sneqd cellsEq_ii, readC, allOne, fillL, resE, tupled, ↓reduceIte, Nat.reduceEqDiff, Int.reduceEq, Int.reduceLT, Int.reduceLE, Nat.reduceAdd, Nat.reduceMul, Nat.reduceLT, Nat.reduceLeDiff, reduceCtorEq, c1, c2, c3, c4, c5, this, purify, unownT, AV.hf]
  by_cases c6 : x.2.1 < 2048
  case neg =>
    have : ¬ rightM x := by rw [e]; omega
    simp (disch := omega) only [wk, avalE, aactE, evPE, boundE, asNat, bv_seql cellsEq_ii, bv_sneqd cellsEq_ii, readC, allOne, fillL, resE, tupled, ↓reduceIte, Nat.reduceEqDiff, Int.reduceEq, Int.reduceLT, Int.reduceLE, Nat.reduceAdd, Nat.reduceMul, Nat.reduceLT, Nat.reduceLeDiff, reduceCtorEq, c1, c2, c3, c4, c5, c6, this, purify, unownT, AV.hf]
  by_cases c7 : x.2.2 ≤ 2048 - x.2.1
  case neg =>
    have : ¬ rightM x := by rw [e]; omega
    simp (disch := omega) only [wk, avalE, aactE, evPE, boundE, asNat, bv_seql cellsEq_ii, bv_sneqd cellsEq_ii, readC, allOne, fillL, resE, tupled, ↓reduceIte, Nat.reduceEqDiff, Int.reduceEq, Int.reduceLT, Int.reduceLE, Nat.reduceAdd, Nat.reduceMul, Nat.reduceLT, Nat.reduceLeDiff, reduceCtorEq, c1, c2, c3, c4, c5, c6, c7, this, purify, unownT, AV.hf]
  have : rightM x := by rw [e]; omega
  simp (disch := omega) only [wk, avalE, aactE, evPE, boundE, asNat, bv_seql cellsEq_ii, bv_sneqd cellsEq_ii, readC, allOne, fillL, resE, tupled, ↓reduceIte, Nat.reduceEqDiff, Int.reduceEq, Int.reduceLT, Int.reduceLE, Nat.reduceAdd, Nat.reduceMul, Nat.reduceLT, Nat.reduceLeDiff, reduceCtorEq, c1, c2, c3, c4, c5, c6, c7, this, purify, unownT, AV.hf]
theorem lend_tabV (t : List Int) : lend (tabV t) = tabV t := by
  show AV.agg ((encs i64A t).map unown) = AV.agg (encs i64A t)
  rw [encs_map1, List.map_map]
  congr 1
theorem hf_tabV (t : List Int) : (tabV t).hf = true := by simp [tabV, AV.hf, hf_i64A]
theorem flat_tab (t : List Int) : (AV.agg (encs i64A t)).flat = encs i64A t := rfl
theorem has_px (t : List Int) (d : Int) (hT : Tab t) (H : Heap) : pcx (cbL tab) 124 [tabV t, .int .i64 d] H = some (.plain (.bool (decide (d ∈ t)))) := by
  refine pcx_N rfl (pc_wp (fi := c124) rfl ?_ (by simp [c124]) (by decide) ?_)
  · simp only [pcOn, List.map_cons, List.map_nil, hfL, hf_lend_sl, hf_lend_int, hf_lend_bool, hf_lend_str, hfL_append, Bool.and_self, Bool.and_true, Bool.true_and, c124, lend_tabV, hf_tabV]
  unfold c124
  rw [List.map_cons, List.map_cons, List.map_nil, lend_tabV, lend_int, tabV]
  have o := one_i64A t
  simp (disch := omega) only [wk, avalE, aactE, evPE, boundE, asNat, bv_seql cellsEq_ii, bv_sneqd cellsEq_ii, readC, allOne, fillL, resE, tupled, ↓reduceIte, Nat.reduceEqDiff, Int.reduceEq, Int.reduceLT, Int.reduceLE, Nat.reduceAdd, Nat.reduceMul, Nat.reduceLT, Nat.reduceLeDiff, reduceCtorEq, o, flat_tab]
  refine loop_ind (fun (x : List Int × List Int) E df H => t = x.1 ++ x.2 ∧ d ∉ x.1 ∧ E 2 = .ptr 0 0 ∧ E 1 = .int .i64 d ∧ E 5 = .int .i64 (x.1.length : Nat) ∧ df = [] ∧ H = [.cells (encs i64A t)])
    (fun x => x.2.length) ([], t) (by decide) (.inl rfl) ⟨rfl, by simp, rfl, rfl, rfl, rfl, rfl⟩ ?_
  intro ⟨pre, suf⟩ E df H ih hP
  obtain ⟨a1, a2, E2, E1, E5, hdf, hH⟩ := hP
  dsimp only at a1 a2 E5
  subst hdf hH
  have hl : t.length = pre.length + suf.length := by rw [a1, List.length_append]
  have h128 := hT.len
  cases suf with
  | nil =>
    simp only [List.length_nil, Nat.add_zero] at hl
    have n1 : ¬ (pre.length : Int) < 128 := by omega
    have e : ¬ d ∈ t := by rw [a1]; simpa using a2
    clear hl
    simp (disch := omega) only [wk, avalE, aactE, evPE, boundE, asNat, bv_seql cellsEq_ii, bv_sneqd cellsEq_ii, readC, allOne, fillL, resE, tupled, ↓reduceIte, Nat.reduceEqDiff, Int.reduceEq, Int.reduceLT, Int.reduceLE, Nat.reduceAdd, Nat.reduceMul, Nat.reduceLT, Nat.reduceLeDiff, reduceCtorEq, E2, E1, E5, n1, e, purify, unownT, AV.hf]
  | cons v r =>
    simp only [List.length_cons] at hl
    have n1 : (pre.length : Int) < 128 := by omega
    have g := getT pre v r
    rw [← a1] at g
    by_cases hv : v = d
    · have e : d ∈ t := by rw [a1, hv]; simp
      simp (disch := omega) only [wk, avalE, aactE, evPE, boundE, asNat, bv_seql cellsEq_ii, bv_sneqd cellsEq_ii, readC, allOne, fillL, resE, tupled, ↓reduceIte, Nat.reduceEqDiff, Int.reduceEq, Int.reduceLT, Int.reduceLE, Nat.reduceAdd, Nat.reduceMul, Nat.reduceLT, Nat.reduceLeDiff, reduceCtorEq, E2, E1, E5, n1, g, Nat.zero_add, hv, e, purify, unownT, AV.hf]
    · simp (disch := omega) only [wk, avalE, aactE, evPE, boundE, asNat, bv_seql cellsEq_ii, bv_sneqd cellsEq_ii, readC, allOne, fillL, resE, tupled, ↓reduceIte, Nat.reduceEqDiff, Int.reduceEq, Int.reduceLT, Int.reduceLE, Nat.reduceAdd, Nat.reduceMul, Nat.reduceLT, Nat.reduceLeDiff, reduceCtorEq, E2, E1, E5, n1, g, Nat.zero_add, hv]
      refine ih (pre ++ [v], r) _ _ _ (by simp) ?_
      exact ⟨by simp [a1], by simp [a2]; exact fun h => hv h.symm, by simp only [en, ↓reduceIte, Nat.reduceEqDiff, E2], by simp only [en, ↓reduceIte, Nat.reduceEqDiff, E1], by simp only [en, ↓reduceIte, Nat.reduceEqDiff], rfl, rfl⟩
theorem RowE.pure {H : Heap} {v : AV} {l : List Ext} (h : RowE H v l) : purify (some (.ret v, H)) = some (prRow 3 extA l) := by
  rcases h with ⟨rfl, rfl⟩ | ⟨hne, id, rfl, hid⟩
  · rfl
  · have h1 : l.isEmpty = false := by cases l with
      | nil => exact absurd rfl hne
      | cons _ _ => rfl
    have h2 : l.length ≠ 0 := fun h => hne (List.length_eq_zero_iff.1 h)
    simp only [purify, hid, prRow, h1, lenE, hf_extA, Bool.false_eq_true, if_false]
    rw [if_pos ⟨trivial, h2, trivial⟩]
theorem rlist_px (t : List Int) (hT : Tab t) (H : Heap) : pcx (cbL tab) 125 [tabV t] H = some (prRow 3 extA (listM t)) := by
  refine pcx_N rfl (pc_wp (fi := c125) rfl ?_ (by simp [c125]) (by decide) ?_)
  · simp only [pcOn, List.map_cons, List.map_nil, hfL, hf_lend_sl, hf_lend_int, hf_lend_bool, hf_lend_str, hfL_append, Bool.and_self, Bool.and_true, Bool.true_and, c125, lend_tabV, hf_tabV]
  unfold c125
  rw [List.map_cons, List.map_nil, lend_tabV, tabV]
  have o := one_i64A t
  simp (disch := omega) only [wk, avalE, aactE, evPE, boundE, asNat, bv_seql cellsEq_ii, bv_sneqd cellsEq_ii, readC, allOne, fillL, resE, tupled, ↓reduceIte, Nat.reduceEqDiff, Int.reduceEq, Int.reduceLT, Int.reduceLE, Nat.reduceAdd, Nat.reduceMul, Nat.reduceLT, Nat.reduceLeDiff, reduceCtorEq, o, flat_tab]
  refine loop_ind (fun (x : List Int × List Int × List Ext) E df H1 => t = x.1 ++ x.2.1 ∧ listM t = listF x.2.1 (x.1.length : Nat) x.2.2 ∧ E 1 = .ptr 0 0 ∧ E 4 = .int .i64 (x.1.length : Nat) ∧ RowE H1 (E 3) x.2.2 ∧ From 1 (E 3) ∧ H1[0]? = some (.cells (encs i64A t)) ∧ (∀ y ∈ x.2.2, SmallE y) ∧ x.2.2.length ≤ x.1.length ∧ df = [])
    (fun x => x.2.1.length) ([], t, []) (by decide) (.inl rfl) ⟨rfl, rfl, rfl, rfl, .inl ⟨rfl, rfl⟩, (by intro k n e; cases e), rfl, by simp, Nat.le_refl _, rfl⟩ ?_
  intro ⟨pre, suf, out⟩ E df H1 ih hP
  obtain ⟨a1, a2, E1, E4, ho, hf, h0, hsm, hol, hdf⟩ := hP
  dsimp only at a1 a2 E4 ho hsm hol
  subst hdf
  have hl : t.length = pre.length + suf.length := by rw [a1, List.length_append]
  have h128 := hT.len
  have s10 : 0 < H1.length := (List.getElem?_eq_some_iff.1 h0).1
  cases suf with
  | nil =>
    simp only [List.length_nil, Nat.add_zero] at hl
    have n1 : ¬ (pre.length : Int) < 128 := by omega
    have e : listM t = out := a2
    clear hl
    simp (disch := omega) only [wk, avalE, aactE, evPE, boundE, asNat, bv_seql cellsEq_ii, bv_sneqd cellsEq_ii, readC, allOne, fillL, resE, tupled, ↓reduceIte, Nat.reduceEqDiff, Int.reduceEq, Int.reduceLT, Int.reduceLE, Nat.reduceAdd, Nat.reduceMul, Nat.reduceLT, Nat.reduceLeDiff, reduceCtorEq, E1, E4, n1, ho.pure, e]
  | cons d r =>
    simp only [List.length_cons] at hl
    have n1 : (pre.length : Int) < 128 := by omega
    have g := getT pre d r
    rw [← a1] at g
    have hdv := hT.val d (by rw [a1]; simp)
    have ef : listF (d :: r) (pre.length : Nat) out = listF r ((pre.length : Nat) + 1) (if d = 0 then out else addE out (pre.length : Nat) d) := rfl
    by_cases hd : d = 0
    · subst hd
      simp (disch := omega) only [wk, avalE, aactE, evPE, boundE, asNat, bv_seql cellsEq_ii, bv_sneqd cellsEq_ii, readC, allOne, fillL, resE, tupled, ↓reduceIte, Nat.reduceEqDiff, Int.reduceEq, Int.reduceLT, Int.reduceLE, Nat.reduceAdd, Nat.reduceMul, Nat.reduceLT, Nat.reduceLeDiff, reduceCtorEq, E1, E4, n1, h0, g, Nat.zero_add]
      refine ih (pre ++ [0], r, out) _ _ _ (by simp) ?_
      exact ⟨by simp [a1], by rw [a2, ef]; simp, by simp only [en, ↓reduceIte, Nat.reduceEqDiff, E1], by simp only [en, ↓reduceIte, Nat.reduceEqDiff], by simp only [en, ↓reduceIte, Nat.reduceEqDiff]; exact ho, by simp only [en, ↓reduceIte, Nat.reduceEqDiff]; exact hf, h0, hsm, by dsimp only; rw [List.length_append]; omega, rfl⟩
    have hal := addE_len out (pre.length : Nat) d
    have hsm2 := addE_small hsm (i := (pre.length : Nat)) (d := d) (by omega) (by omega) (by omega) (by omega)
    have fin : ∀ (E' : Env) (H' : Heap), listM t = listF (d :: r) (pre.length : Nat) out → E' 1 = .ptr 0 0 → E' 4 = .int .i64 ((pre ++ [d]).length : Nat) → RowE H' (E' 3) (addE out (pre.length : Nat) d) → From 1 (E' 3) → H'[0]? = some (.cells (encs i64A t)) →
        (t = (pre ++ [d]) ++ r ∧ listM t = listF r ((pre ++ [d]).length : Nat) (addE out (pre.length : Nat) d) ∧ E' 1 = .ptr 0 0 ∧ E' 4 = .int .i64 ((pre ++ [d]).length : Nat) ∧ RowE H' (E' 3) (addE out (pre.length : Nat) d) ∧ From 1 (E' 3) ∧ H'[0]? = some (.cells (encs i64A t)) ∧ (∀ y ∈ addE out (pre.length : Nat) d, SmallE y) ∧ (addE out (pre.length : Nat) d).length ≤ (pre ++ [d]).length ∧ ([] : List ADf) = []) := by
      intro E' H' q1 q2 q3 q4 q5 q6
      exact ⟨by simp [a1], by rw [q1, ef, if_neg hd]; simp, q2, q3, q4, q5, q6, hsm2, by rw [List.length_append]; exact Nat.le_trans hal (by simp; omega), rfl⟩
    rcases ho with ⟨rfl, E3⟩ | ⟨hne, id, E3, hid⟩
    · have ap : appR 3 24 (.sl 0 0 [] .z) (.sl 3 1 [.int .i64 (pre.length : Nat), .int .i64 d, .int .i64 1] .ro) H1 = some (.val (.rsl 3 H1.length 1), H1 ++ [.cells [.int .i64 (pre.length : Nat), .int .i64 d, .int .i64 1]]) := by
        simp [appR, allOne, AV.one]
      have i0 : ((0 : Nat) : Int) = 0 := rfl
      have i1 : (0 : Int) - 1 = -1 := rfl
      simp (disch := omega) only [wk, avalE, aactE, evPE, boundE, asNat, bv_seql cellsEq_ii, bv_sneqd cellsEq_ii, readC, allOne, fillL, resE, tupled, ↓reduceIte, Nat.reduceEqDiff, Int.reduceEq, Int.reduceLT, Int.reduceLE, Nat.reduceAdd, Nat.reduceMul, Nat.reduceLT, Nat.reduceLeDiff, reduceCtorEq, E1, E4, E3, n1, h0, g, Nat.zero_add, hd, ap, i0, i1]
      refine ih (pre ++ [d], r, addE [] (pre.length : Nat) d) _ _ _ (by simp) (fin _ _ a2 (by simp only [en, ↓reduceIte, Nat.reduceEqDiff, E1]) (by simp only [en, ↓reduceIte, Nat.reduceEqDiff]) (.inr ⟨by simp [addE_nil], H1.length, by simp only [en, ↓reduceIte, Nat.reduceEqDiff]; rfl, ?_⟩) (fun k n e => ?_) ?_)
      · rw [addE_nil]; simp [encs, extA]
      · simp only [upd_app, updD_some, ↓reduceIte, Nat.reduceEqDiff] at e
        cases e; omega
      · rw [List.getElem?_append_left s10]; exact h0
    · have hid0 : 1 ≤ id := hf id _ E3
      obtain ⟨init, x, rfl⟩ : ∃ init x, out = init ++ [x] := by
        rcases List.eq_nil_or_concat out with h | ⟨init, y, h⟩
        · exact absurd h hne
        · exact ⟨init, y, by rw [h, List.concat_eq_append]⟩
      have len : (init ++ [x]).length = init.length + 1 := by simp
      rw [len] at E3
      have hlt : id < H1.length := (List.getElem?_eq_some_iff.1 hid).1
      obtain ⟨x1, x2, x3, x4, x5⟩ := hsm x (by simp)
      have g0 := getE0 init x
      have g1 := getE1 init x
      have g2 := getE2 init x
      have gs := setE2 init x
      have gl := lenE (init ++ [x])
      have lE : (encs extA (init ++ [x])).length = (init.length + 1) * 3 := by rw [lenE, len]
      have m1 : (init.length : Int) + 1 - 1 = (init.length : Int) := by omega
      have m2 : (init.length : Int) < (init.length : Int) + 1 := by omega
      have m3 : (init.length : Int) < ((init.length + 1 : Nat) : Int) := by omega
      have ap : appR 3 24 (.rsl 3 id (init.length + 1)) (.sl 3 1 [.int .i64 (pre.length : Nat), .int .i64 d, .int .i64 1] .ro) H1 =
          some (.val (.rsl 3 H1.length (init.length + 1 + 1)), H1.set id .dead ++ [.cells (encs extA (init ++ [x]) ++ [.int .i64 (pre.length : Nat), .int .i64 d, .int .i64 1])]) := by
        have h1 : (init.length + 1 + 1) * 24 ≤ 70368744177664 := by omega
        have h2 : init.length + 1 + 1 ≤ 70368744177664 := by omega
        simp [appR, allOne, AV.one, hid, lE, one_extA, h1, h2]
      have no : ¬ (x.1 + x.2.2 = (pre.length : Nat) ∧ x.2.1 + x.2.2 = d) → RowE (H1.set id .dead ++ [.cells (encs extA (init ++ [x]) ++ [.int .i64 (pre.length : Nat), .int .i64 d, .int .i64 1])]) (.rsl 3 H1.length (init.length + 1 + 1)) (addE (init ++ [x]) (pre.length : Nat) d) := by
        intro c
        rw [addE_snoc, if_neg c]
        refine .inr ⟨by simp, H1.length, by simp, ?_⟩
        rw [encs_append (l := init ++ [x]), List.getElem?_append_right (by simp)]
        simp [encs, extA]
      have no0 : (H1.set id .dead ++ [AObj.cells (encs extA (init ++ [x]) ++ [.int .i64 (pre.length : Nat), .int .i64 d, .int .i64 1])])[0]? = some (.cells (encs i64A t)) := by
        rw [List.getElem?_append_left (by simp; omega), List.getElem?_set_ne (by omega)]; exact h0
      by_cases c1 : x.1 + x.2.2 = (pre.length : Int)
      case neg =>
        simp (disch := omega) only [wk, avalE, aactE, evPE, boundE, asNat, bv_seql cellsEq_ii, bv_sneqd cellsEq_ii, readC, allOne, fillL, resE, tupled, ↓reduceIte, Nat.reduceEqDiff, Int.reduceEq, Int.reduceLT, Int.reduceLE, Nat.reduceAdd, Nat.reduceMul, Nat.reduceLT, Nat.reduceLeDiff, reduceCtorEq, E1, E4, E3, n1, h0, g, Nat.zero_add, hd, m1, m2, m3, hid, g0, g1, g2, c1, ap]
        refine ih (pre ++ [d], r, addE (init ++ [x]) (pre.length : Nat) d) _ _ _ (by simp) (fin _ _ a2 (by simp only [en, ↓reduceIte, Nat.reduceEqDiff, E1]) (by simp only [en, ↓reduceIte, Nat.reduceEqDiff]) (by simp only [en, ↓reduceIte, Nat.reduceEqDiff]; exact no (fun h => c1 h.1)) (fun k n e => ?_) no0)
        simp only [upd_app, updD_some, ↓reduceIte, Nat.reduceEqDiff] at e
        cases e; omega
      by_cases c2 : x.2.1 + x.2.2 = d
      case neg =>
        simp (disch := omega) only [wk, avalE, aactE, evPE, boundE, asNat, bv_seql cellsEq_ii, bv_sneqd cellsEq_ii, readC, allOne, fillL, resE, tupled, ↓reduceIte, Nat.reduceEqDiff, Int.reduceEq, Int.reduceLT, Int.reduceLE, Nat.reduceAdd, Nat.reduceMul, Nat.reduceLT, Nat.reduceLeDiff, reduceCtorEq, E1, E4, E3, n1, h0, g, Nat.zero_add, hd, m1, m2, m3, hid, g0, g1, g2, c1, c2, ap]
        refine ih (pre ++ [d], r, addE (init ++ [x]) (pre.length : Nat) d) _ _ _ (by simp) (fin _ _ a2 (by simp only [en, ↓reduceIte, Nat.reduceEqDiff, E1]) (by simp only [en, ↓reduceIte, Nat.reduceEqDiff]) (by simp only [en, ↓reduceIte, Nat.reduceEqDiff]; exact no (fun h => c2 h.2)) (fun k n e => ?_) no0)
        simp only [upd_app, updD_some, ↓reduceIte, Nat.reduceEqDiff] at e
        cases e; omega
      simp (disch := omega) only [wk, avalE, aactE, evPE, boundE, asNat, bv_seql cellsEq_ii, bv_sneqd cellsEq_ii, readC, allOne, fillL, resE, tupled, ↓reduceIte, Nat.reduceEqDiff, Int.reduceEq, Int.reduceLT, Int.reduceLE, Nat.reduceAdd, Nat.reduceMul, Nat.reduceLT, Nat.reduceLeDiff, reduceCtorEq, E1, E4, E3, n1, h0, g, Nat.zero_add, hd, m1, m2, m3, hid, g0, g1, g2, gs, gl, c1, c2]
      refine ih (pre ++ [d], r, addE (init ++ [x]) (pre.length : Nat) d) _ _ _ (by simp) (fin _ _ a2 (by simp only [en, ↓reduceIte, Nat.reduceEqDiff, E1]) (by simp only [en, ↓reduceIte, Nat.reduceEqDiff]) ?_ ?_ ?_)
      · rw [addE_snoc, if_pos ⟨c1, c2⟩]
        refine .inr ⟨by simp, id, by simp only [en, ↓reduceIte, Nat.reduceEqDiff, E3], ?_⟩
        exact List.getElem?_set_self hlt
      · intro k n e
        simp only [upd_app, updD_some, ↓reduceIte, Nat.reduceEqDiff, E3] at e
        cases e; exact hid0
      · rw [List.getElem?_set_ne (by omega)]; exact h0
theorem pc_wpE {tab : FuncId → Option AFun} {f : FuncId} {fi : AFun} {args : List AV} {R : PR → Prop} (ht : tab f = some fi) (hon : pcOn fi args = true) (hl : args.length ≤ fi.np) (hf : fi.body.fits fi.np = true)
    (h : Ret (cbL tab) none fi.np (Go.Am.Ends tab fi.res fun o H => ∃ r, purify (some (o, H)) = some r ∧ R r) [.code fi.body] .normal (argE (args.map lend)) [] []) : ∃ r, (cbL tab).pc f args = some r ∧ R r := by
  rw [← EV_fr0 fi.np] at h
  obtain ⟨o, H', h1, r, h2, h3⟩ := body_wp (by rw [List.length_map]; exact hl) hf h
  refine ⟨r, ?_, h3⟩
  apply pc_of
  rw [pcA, ht]
  simp only [hon, if_true]
  rw [h1, h2]
def OfP (l : List Ext) (r : PR) : Prop := ∃ t b, r = .plain (ofV (t, b)) ∧ Tab t ∧ b = (ofM l).isSome ∧ (∀ t', ofM l = some t' → t = t')
theorem OfP.no {l : List Ext} {t : List Int} {H : Heap} (h : ofM l = none) (hT : Tab t) : ∃ r, purify (some (.ret (.tup [.agg (encs i64A t), .bool false]), H)) = some r ∧ OfP l r :=
  ⟨_, purify_of t false H, t, false, rfl, hT, by rw [h]; rfl, fun t' e => by rw [h] at e; cases e⟩
theorem OfP.yes {l : List Ext} {t : List Int} {H : Heap} (h : ofM l = some t) (hT : Tab t) : ∃ r, purify (some (.ret (.tup [.agg (encs i64A t), .bool true]), H)) = some r ∧ OfP l r :=
  ⟨_, purify_of t true H, t, true, rfl, hT, by rw [h]; rfl, fun t' e => by rw [h] at e; cases e; rfl⟩
/-- What is told of a list by the document: some table, and whether it is one; where it is one, its own. -/
theorem rxof_pc (l : List Ext) (s : Nat) (rest : List AV) (tk : Tk) (hz : l ≠ [] → s = 3) (hr : hfL rest = true) (hn : l.length ≤ 1000) :
    ∃ r, (cbL tab).pc 79 [.sl s l.length (encs extA l ++ rest) tk] = some r ∧ OfP l r := by
  obtain ⟨u1, e1, f1⟩ := lend_sl s l.length (encs extA l ++ rest) tk
  refine pc_wpE (fi := c79) rfl ?_ (by simp [c79]) (by decide) ?_
  · simp only [pcOn, List.map_cons, List.map_nil, hfL, hf_lend_sl, hf_lend_int, hf_lend_bool, hf_lend_str, hfL_append, Bool.and_self, Bool.and_true, Bool.true_and, c79, hf_extA, hr]
  unfold c79
  rw [List.map_cons, List.map_nil, e1, z128]
  have tT := Tab.t0
  have tl := lenT t0
  have tl2 := tT.len
  have tk1 := tk128 t0 tT
  have td1 := dr128 t0 tT
  have one0 := one_i64A t0
  by_cases h10 : 10 < l.length
  · have h10' : (10 : Int) < l.length := by omega
    have e : ofM l = none := by unfold ofM; rw [if_neg (by omega)]
    simp (disch := omega) only [wk, avalE, aactE, evPE, boundE, asNat, bv_seql cellsEq_ii, bv_sneqd cellsEq_ii, readC, allOne, fillL, resE, tupled, ↓reduceIte, Nat.reduceEqDiff, Int.reduceEq, Int.reduceLT, Int.reduceLE, Nat.reduceAdd, Nat.reduceMul, Nat.reduceLT, Nat.reduceLeDiff, reduceCtorEq, h10', tl, tl2, tk1, td1, one0, List.append_nil, flat_tab]
    exact OfP.no e tT
  have h10' : ¬ (10 : Int) < l.length := by omega
  simp (disch := omega) only [wk, avalE, aactE, evPE, boundE, asNat, bv_seql cellsEq_ii, bv_sneqd cellsEq_ii, readC, allOne, fillL, resE, tupled, ↓reduceIte, Nat.reduceEqDiff, Int.reduceEq, Int.reduceLT, Int.reduceLE, Nat.reduceAdd, Nat.reduceMul, Nat.reduceLT, Nat.reduceLeDiff, reduceCtorEq, h10']
  refine loop_ind (fun (x : List Ext × List Ext × List Int) E df H1 => l = x.1 ++ x.2.1 ∧ layL l t0 = layL x.2.1 x.2.2 ∧ Tab x.2.2 ∧ H1 = [.cells (encs i64A t0), .cells (encs i64A x.2.2)] ∧
      E 0 = .sl s l.length (encs extA l ++ rest) u1 ∧ E 2 = .ptr 0 0 ∧ E 4 = .ptr 1 0 ∧ E 5 = .int .i64 (x.1.length : Nat) ∧ df = [])
    (fun x => x.2.1.length) ([], l, t0) (by decide) (.inl rfl) ⟨rfl, rfl, tT, rfl, rfl, rfl, rfl, rfl, rfl⟩ ?_
  intro ⟨pre, suf, tt⟩ E df H1 ih hP
  obtain ⟨a1, a2, hT, hH, E0, E2, E4, E5, hdf⟩ := hP
  dsimp only at a1 a2 hT hH E5
  subst hdf hH
  have hl : l.length = pre.length + suf.length := by rw [a1, List.length_append]
  have ttl := lenT tt
  have ttl2 := hT.len
  have tk2 := tk128 tt hT
  have one2 := one_i64A tt
  cases suf with
  | nil =>
    simp only [List.length_nil, Nat.add_zero] at hl
    have lay : layL l t0 = some tt := a2
    have rl := fun H => rlist_px tt hT H
    simp only [tabV] at rl
    have hll : (listM tt).length ≤ 1000 := by
      have := (list_ic 0 tt [.cells (encs i64A tt)] rfl hT).2
      obtain ⟨_, _, _, _, _, _, _, _, h⟩ := this
      omega
    by_cases hL : listM tt = l
    · have e : ofM l = some tt := by unfold ofM; rw [if_pos (by omega), lay]; simp [hL]
      by_cases he : l = []
      · have e0 : prRow 3 extA (listM tt) = .plain (.sl 0 0 [] .z) := by rw [hL, he]; rfl
        rw [e0] at rl
        have hp0 : pre.length = 0 := by rw [← hl, he]; rfl
        have sm := fun H => samel_px [] l [] rest 0 s .z u1 H (by simp) hn (fun h => absurd rfl h) hz rfl hr
        rw [decide_eq_true he.symm, hl] at sm
        simp only [List.append_nil, encs_nil, List.length_nil] at sm
        simp (disch := omega) only [wk, avalE, aactE, evPE, boundE, asNat, bv_seql cellsEq_ii, bv_sneqd cellsEq_ii, readC, allOne, fillL, resE, tupled, ↓reduceIte, Nat.reduceEqDiff, Int.reduceEq, Int.reduceLT, Int.reduceLE, Nat.reduceAdd, Nat.reduceMul, Nat.reduceLT, Nat.reduceLeDiff, reduceCtorEq, E0, E2, E4, E5, hl, rl, sm, ttl, ttl2, tk2, td1, one2, tl, tl2, flat_tab, List.append_nil]
        exact OfP.yes e hT
      · have e0 : prRow 3 extA (listM tt) = .fresh 3 l.length (encs extA l) := by
          rw [hL]; unfold prRow
          have : l.isEmpty = false := by cases l with
            | nil => exact absurd rfl he
            | cons _ _ => rfl
          rw [this]; rfl
        rw [e0] at rl
        have sm := fun H g => samel_px l l [] rest 3 s (.own g) u1 H hn hn (fun _ => rfl) hz rfl hr
        rw [hl] at rl sm
        simp only [List.append_nil, decide_true] at sm
        simp (disch := omega) only [wk, avalE, aactE, evPE, boundE, asNat, bv_seql cellsEq_ii, bv_sneqd cellsEq_ii, readC, allOne, fillL, resE, tupled, ↓reduceIte, Nat.reduceEqDiff, Int.reduceEq, Int.reduceLT, Int.reduceLE, Nat.reduceAdd, Nat.reduceMul, Nat.reduceLT, Nat.reduceLeDiff, reduceCtorEq, E0, E2, E4, E5, hl, rl, sm, ttl, ttl2, tk2, td1, one2, tl, tl2, flat_tab, List.append_nil]
        exact OfP.yes e hT
    · have e : ofM l = none := by unfold ofM; rw [if_pos (by omega), lay]; simp [hL]
      by_cases he : listM tt = []
      · have e0 : prRow 3 extA (listM tt) = .plain (.sl 0 0 [] .z) := by rw [he]; rfl
        rw [e0] at rl
        have sm := fun H => samel_px [] l [] rest 0 s .z u1 H (by simp) hn (fun h => absurd rfl h) hz rfl hr
        rw [decide_eq_false (fun h => hL (by rw [he]; exact h)), hl] at sm
        simp only [List.append_nil, encs_nil, List.length_nil] at sm
        simp (disch := omega) only [wk, avalE, aactE, evPE, boundE, asNat, bv_seql cellsEq_ii, bv_sneqd cellsEq_ii, readC, allOne, fillL, resE, tupled, ↓reduceIte, Nat.reduceEqDiff, Int.reduceEq, Int.reduceLT, Int.reduceLE, Nat.reduceAdd, Nat.reduceMul, Nat.reduceLT, Nat.reduceLeDiff, reduceCtorEq, E0, E2, E4, E5, hl, rl, sm, ttl, ttl2, tk2, td1, one2, tl, tl2, flat_tab, List.append_nil]
        exact OfP.no e hT
      · have e0 : prRow 3 extA (listM tt) = .fresh 3 (listM tt).length (encs extA (listM tt)) := by
          unfold prRow
          have : (listM tt).isEmpty = false := by cases h : listM tt with
            | nil => exact absurd h he
            | cons _ _ => rfl
          rw [this]; rfl
        rw [e0] at rl
        have sm := fun H g => samel_px (listM tt) l [] rest 3 s (.own g) u1 H hll hn (fun _ => rfl) hz rfl hr
        rw [decide_eq_false hL] at sm
        rw [hl] at sm
        simp only [List.append_nil] at sm
        simp (disch := omega) only [wk, avalE, aactE, evPE, boundE, asNat, bv_seql cellsEq_ii, bv_sneqd cellsEq_ii, readC, allOne, fillL, resE, tupled, ↓reduceIte, Nat.reduceEqDiff, Int.reduceEq, Int.reduceLT, Int.reduceLE, Nat.reduceAdd, Nat.reduceMul, Nat.reduceLT, Nat.reduceLeDiff, reduceCtorEq, E0, E2, E4, E5, hl, rl, sm, ttl, ttl2, tk2, td1, one2, tl, tl2, flat_tab, List.append_nil]
        exact OfP.no e hT
  | cons x r =>
    simp only [List.length_cons] at hl
    obtain rfl := hz (by rw [a1]; simp)
    have dd := edrop pre x r rest
    rw [← a1] at dd
    have n1 : (pre.length : Int) < (l.length : Int) := by omega
    have rp := fun H => rright_px x H
    simp only [extV, cellsX] at rp
    by_cases hx : rightM x
    case neg =>
      have e : ofM l = none := by
        unfold ofM
        rw [if_pos (by omega), a2]
        simp [layL, hx]
      simp (disch := omega) only [wk, avalE, aactE, evPE, boundE, asNat, bv_seql cellsEq_ii, bv_sneqd cellsEq_ii, readC, allOne, fillL, resE, tupled, ↓reduceIte, Nat.reduceEqDiff, Int.reduceEq, Int.reduceLT, Int.reduceLE, Nat.reduceAdd, Nat.reduceMul, Nat.reduceLT, Nat.reduceLeDiff, reduceCtorEq, E0, E2, E4, E5, n1, dd, rp, hx, ttl, ttl2, tk2, td1, one2, tl, tl2, flat_tab, List.append_nil]
      exact OfP.no e hT
    obtain ⟨n, hn'⟩ : ∃ n : Nat, x.2.2 = (n : Int) := ⟨x.2.2.toNat, by have := hx.2.2.1; omega⟩
    have hnt : x.2.2.toNat = n := by omega
    have lst : layL (x :: r) tt = match layN n x.1 x.2.1 tt with
      | some t' => layL r t'
      | none => none := by
      show (if rightM x then (match layN x.2.2.toNat x.1 x.2.1 tt with | some t' => layL r t' | none => none) else none) = _
      rw [if_pos hx, hnt]
    simp (disch := omega) only [wk, avalE, aactE, evPE, boundE, asNat, bv_seql cellsEq_ii, bv_sneqd cellsEq_ii, readC, allOne, fillL, resE, tupled, ↓reduceIte, Nat.reduceEqDiff, Int.reduceEq, Int.reduceLT, Int.reduceLE, Nat.reduceAdd, Nat.reduceMul, Nat.reduceLT, Nat.reduceLeDiff, reduceCtorEq, E0, E2, E4, E5, n1, dd, rp, hx]
    refine loop_ind (fun (y : Nat × List Int) E df H2 => y.1 ≤ n ∧ layN n x.1 x.2.1 tt = layN (n - y.1) (x.1 + (y.1 : Nat)) (x.2.1 + (y.1 : Nat)) y.2 ∧ Tab y.2 ∧ H2 = [.cells (encs i64A t0), .cells (encs i64A y.2)] ∧
        E 0 = .sl 3 l.length (encs extA l ++ rest) u1 ∧ E 2 = .ptr 0 0 ∧ E 4 = .ptr 1 0 ∧ E 5 = .int .i64 (pre.length : Nat) ∧ E 6 = .int .i64 (y.1 : Nat) ∧ df = [])
      (fun y => n - y.1) (0, tt) (by decide) (.inl rfl) ⟨Nat.zero_le _, by simp, hT, rfl, by simp only [en, ↓reduceIte, Nat.reduceEqDiff, E0], by simp only [en, ↓reduceIte, Nat.reduceEqDiff, E2], by simp only [en, ↓reduceIte, Nat.reduceEqDiff, E4], by simp only [en, ↓reduceIte, Nat.reduceEqDiff, E5], by simp only [en, ↓reduceIte, Nat.reduceEqDiff]; rfl, rfl⟩ ?_
    clear E0 E2 E4 E5 hT ttl ttl2 tk2 one2
    intro ⟨k, t'⟩ E df H2 ih2 hP
    obtain ⟨hk, hlay, hT, hH, E0, E2, E4, E5, E6, hdf⟩ := hP
    dsimp only at hk hlay hT hH E6
    subst hdf hH
    have lt' := lenT t'
    have lt2 := hT.len
    have tk3 := tk128 t' hT
    have one3 := one_i64A t'
    obtain ⟨x1, x2, x3, x4, x5, x6, x7⟩ := hx
    rw [hn'] at x3 x4 x7
    have dd3 := dd
    rw [hn'] at dd3
    by_cases hkn : k = n
    · subst hkn
      have nk : ¬ (k : Int) < (k : Int) := by omega
      simp (disch := omega) only [wk, avalE, aactE, evPE, boundE, asNat, bv_seql cellsEq_ii, bv_sneqd cellsEq_ii, readC, allOne, fillL, resE, tupled, ↓reduceIte, Nat.reduceEqDiff, Int.reduceEq, Int.reduceLT, Int.reduceLE, Nat.reduceAdd, Nat.reduceMul, Nat.reduceLT, Nat.reduceLeDiff, reduceCtorEq, E0, E2, E4, E5, E6, n1, dd3, nk]
      refine ih (pre ++ [x], r, t') _ _ _ (by simp) ?_
      have e : layL (x :: r) tt = layL r t' := by
        rw [lst, hlay, Nat.sub_self]; rfl
      exact ⟨by simp [a1], by rw [a2, e], hT, rfl, by simp only [en, ↓reduceIte, Nat.reduceEqDiff, E0], by simp only [en, ↓reduceIte, Nat.reduceEqDiff, E2], by simp only [en, ↓reduceIte, Nat.reduceEqDiff, E4], by simp only [en, ↓reduceIte, Nat.reduceEqDiff], rfl⟩
    have nk : (k : Int) < (n : Int) := by omega
    obtain ⟨j, hj⟩ : ∃ j : Nat, x.1 + (k : Int) = (j : Int) := ⟨(x.1 + (k : Int)).toNat, by omega⟩
    have hj128 : (j : Int) < 128 := by omega
    have hd0 : 0 < x.2.1 + (k : Int) := by omega
    have hd1 : x.2.1 + (k : Int) < 2048 := by omega
    have gj := getI t' j (by omega)
    have sj := setI t' j (x.2.1 + (k : Int)) (by omega)
    obtain ⟨m, hm1⟩ : ∃ m, n - k = m + 1 := ⟨n - k - 1, by omega⟩
    have hm2 : n - (k + 1) = m := by omega
    rw [hm1, hj] at hlay
    have lu : layN (m + 1) (j : Int) (x.2.1 + (k : Int)) t' = if t'.getD j 0 ≠ 0 ∨ x.2.1 + (k : Int) ∈ t' then none else layN m ((j : Int) + 1) (x.2.1 + (k : Int) + 1) (t'.set j (x.2.1 + (k : Int))) := by
      rw [layN, Int.toNat_natCast]
    rw [lu] at hlay
    have wrong : layN n x.1 x.2.1 tt = none → ofM l = none := by
      intro h
      rw [h] at lst
      unfold ofM
      rw [if_pos (by omega), a2, lst]
    have mu : j * 1 = j := Nat.mul_one j
    have hp := fun H => has_px t' (x.2.1 + (k : Int)) hT H
    simp only [tabV] at hp
    by_cases hg : t'.getD j 0 = 0
    case neg =>
      have e := wrong (by rw [hlay, if_pos (.inl hg)])
      simp (disch := omega) only [wk, avalE, aactE, evPE, boundE, asNat, bv_seql cellsEq_ii, bv_sneqd cellsEq_ii, readC, allOne, fillL, resE, tupled, ↓reduceIte, Nat.reduceEqDiff, Int.reduceEq, Int.reduceLT, Int.reduceLE, Nat.reduceAdd, Nat.reduceMul, Nat.reduceLT, Nat.reduceLeDiff, reduceCtorEq, E0, E2, E4, E5, E6, n1, dd3, nk, hj, hj128, gj, hg, Nat.zero_add, mu, lt', lt2, tk3, td1, one3, tl, tl2, flat_tab, List.append_nil]
      exact OfP.no e hT
    by_cases hin : x.2.1 + (k : Int) ∈ t'
    · have e := wrong (by rw [hlay, if_pos (.inr hin)])
      rw [decide_eq_true hin] at hp
      simp (disch := omega) only [wk, avalE, aactE, evPE, boundE, asNat, bv_seql cellsEq_ii, bv_sneqd cellsEq_ii, readC, allOne, fillL, resE, tupled, ↓reduceIte, Nat.reduceEqDiff, Int.reduceEq, Int.reduceLT, Int.reduceLE, Nat.reduceAdd, Nat.reduceMul, Nat.reduceLT, Nat.reduceLeDiff, reduceCtorEq, E0, E2, E4, E5, E6, n1, dd3, nk, hj, hj128, gj, hg, Nat.zero_add, mu, lt', lt2, tk3, td1, one3, tl, tl2, hp, flat_tab, List.append_nil]
      exact OfP.no e hT
    · have hlay2 := hlay
      rw [if_neg (by rintro (h | h); exact h hg; exact hin h)] at hlay2
      rw [decide_eq_false hin] at hp
      simp (disch := omega) only [wk, avalE, aactE, evPE, boundE, asNat, bv_seql cellsEq_ii, bv_sneqd cellsEq_ii, readC, allOne, fillL, resE, tupled, ↓reduceIte, Nat.reduceEqDiff, Int.reduceEq, Int.reduceLT, Int.reduceLE, Nat.reduceAdd, Nat.reduceMul, Nat.reduceLT, Nat.reduceLeDiff, reduceCtorEq, E0, E2, E4, E5, E6, n1, dd3, nk, hj, hj128, gj, hg, Nat.zero_add, mu, lt', lt2, tk3, td1, one3, hp, sj]
      refine ih2 (k + 1, t'.set j (x.2.1 + (k : Int))) _ _ _ (by show n - (k + 1) < n - k; omega) ?_
      refine ⟨by show k + 1 ≤ n; omega, ?_, hT.set (by omega) hd1, rfl, by simp only [en, ↓reduceIte, Nat.reduceEqDiff, E0], by simp only [en, ↓reduceIte, Nat.reduceEqDiff, E2], by simp only [en, ↓reduceIte, Nat.reduceEqDiff, E4], by simp only [en, ↓reduceIte, Nat.reduceEqDiff, E5], by simp only [en, ↓reduceIte, Nat.reduceEqDiff], rfl⟩
      have c1 : x.1 + ((k + 1 : Nat) : Int) = (j : Int) + 1 := by omega
      have c2 : x.2.1 + ((k + 1 : Nat) : Int) = x.2.1 + (k : Int) + 1 := by omega
      dsimp only
      rw [c1, c2, hm2]
      exact hlay2
end Go.Proofs.Ytncmflmjlocgiaa
