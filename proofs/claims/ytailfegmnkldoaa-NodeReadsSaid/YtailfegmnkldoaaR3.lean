/- THE WALKS OF THE REFERENCE'S Read, fine, Check, pointer, Swap. No condition but those stated. -/
import Derived.Test.YtailfegmnkldoaaS1
set_option linter.unusedSimpArgs false
set_option linter.unusedVariables false
set_option linter.unusedSectionVars false
namespace Go.Proofs.Ytailfegmnkldoaa
open Go Go.Am Go.Slots
set_option maxHeartbeats 4000000
set_option maxRecDepth 10000
theorem refread_px (left : Int) (ps : List (Int × Int)) (rest : List AV) (tk : Tk) (H : Heap) (hn : ps.length ≤ 1000) (hc : hfL rest = true) :
    pcx (cbL tab) 35 [.int .u64 left, row ps rest tk] H = some (.plain (.tup [slvR 2 pairA (rdL left ps), slvR 1 intA (atL left 0 ps)])) := by
  obtain ⟨u1, e1, f1⟩ := lend_sl 1 (2 * ps.length) (encs pairA ps ++ rest) tk
  refine pcx_N rfl (pc_wp (fi := c35) rfl ?_ (by simp [c35]) (by decide) ?_)
  · simp only [pcOn, List.map_cons, List.map_nil, hfL, hf_lend_sl, hf_lend_int, hf_lend_bool, hf_lend_str, hfL_append, Bool.and_self, Bool.and_true, Bool.true_and, c35, row, hc, hf_pairA]
  unfold c35
  rw [List.map_cons, List.map_cons, List.map_nil, row, e1, lend_int]
  simp (disch := omega) only [wk, avalE, aactE, evPE, boundE, asNat, bv_seql cellsEq_ii, bv_sneqd cellsEq_ii, readC, allOne, fillL, resE, tupled, ↓reduceIte, Nat.reduceEqDiff, Int.reduceEq, Int.reduceLT, Int.reduceLE, Nat.reduceAdd, Nat.reduceMul, Nat.reduceLT, Nat.reduceLeDiff, reduceCtorEq]
  have hraw := rawL_le ps
  have rw1 := fun H => pcx_N (H := H) rfl (raw_pc ps rest u1 hn hc)
  refine loop_ind (fun (x : List (Int × Int) × List (Int × Int) × List (Int × Int) × List Int) E df H => ps = x.1 ++ x.2.1 ∧ rawL ps = x.1.length + rawL x.2.1 ∧ rdL left ps = x.2.2.1 ++ rdL (lastP left x.1) x.2.1 ∧ atL left 0 ps = x.2.2.2 ++ atL (lastP left x.1) x.1.length x.2.1 ∧
      x.2.2.1.length ≤ x.1.length ∧ x.2.2.2.length = x.2.2.1.length ∧
      E 0 = .int .u64 left ∧ E 1 = row ps rest u1 ∧ E 8 = .int .i64 (x.1.length : Nat) ∧ df = [] ∧ Own H 2 (E 6) x.2.2.1.length (encs pairA x.2.2.1) ∧ (∀ a b c, E 6 ≠ .sl a b c .e) ∧ Own H 1 (E 7) x.2.2.2.length (encs intA x.2.2.2) ∧ (∀ a b c, E 7 ≠ .sl a b c .e) ∧ (tokOf (E 6) = none ∨ tokOf (E 6) ≠ tokOf (E 7)))
    (fun x => x.2.1.length) ([], ps, [], []) (by decide) (.inl rfl) ⟨rfl, by simp, by simp [lastP], by simp [lastP], Nat.le_refl _, rfl, rfl, rfl, rfl, rfl, .inl ⟨.inl rfl, rfl, rfl⟩, (by intro a b c e; cases e), .inl ⟨.inl rfl, rfl, rfl⟩, (by intro a b c e; cases e), .inl rfl⟩ ?_
  intro ⟨pre, suf, out, at_⟩ E df H ih hP
  obtain ⟨a1, a2, a3, a4, a5, a6, E0, E1, E8, hdf, o1, z1, o2, z2, hne⟩ := hP
  dsimp only at a1 a2 a3 a4 a5 a6 E8 o1 o2
  subst hdf
  have hl : ps.length = pre.length + suf.length := by rw [a1, List.length_append]
  simp only [row] at rw1
  have fin : rdL (lastP left pre) suf = [] → atL (lastP left pre) pre.length suf = [] → purify (some (.ret (.tup [E 6, E 7]), H)) = some (.plain (.tup [slvR 2 pairA (rdL left ps), slvR 1 intA (atL left 0 ps)])) := by
    intro g1 g2
    rw [g1, List.append_nil] at a3
    rw [g2, List.append_nil] at a4
    have w1 := own_lend o1 z1
    have w2 := own_lend o2 z2
    rw [purify_tup (own_sl o1)]
    simp only [List.map_cons, List.map_nil, w1, w2, AV.hf, hfL, slvR_hf (f := pairA) (fun _ => rfl), slvR_hf (f := intA) (fun _ => rfl), Bool.and_self, if_true, a3, a4]
  cases suf with
  | nil =>
    simp only [rawL, Nat.add_zero] at a2
    simp (disch := omega) only [wk, avalE, aactE, evPE, boundE, asNat, bv_seql cellsEq_ii, bv_sneqd cellsEq_ii, readC, allOne, fillL, resE, tupled, ↓reduceIte, Nat.reduceEqDiff, Int.reduceEq, Int.reduceLT, Int.reduceLE, Nat.reduceAdd, Nat.reduceMul, Nat.reduceLT, Nat.reduceLeDiff, reduceCtorEq, E0, E1, E8, row, rw1, a2]
    exact fin rfl rfl
  | cons x r =>
    simp only [List.length_cons] at hl
    by_cases hx : x.2 = 0
    · simp only [rawL, hx, if_true, Nat.add_zero] at a2
      simp (disch := omega) only [wk, avalE, aactE, evPE, boundE, asNat, bv_seql cellsEq_ii, bv_sneqd cellsEq_ii, readC, allOne, fillL, resE, tupled, ↓reduceIte, Nat.reduceEqDiff, Int.reduceEq, Int.reduceLT, Int.reduceLE, Nat.reduceAdd, Nat.reduceMul, Nat.reduceLT, Nat.reduceLeDiff, reduceCtorEq, E0, E1, E8, row, rw1, a2]
      exact fin (by simp [rdL, hx]) (by simp [atL, hx])
    have hlt : pre.length < rawL ps := by rw [a2]; simp only [rawL, hx, if_false]; omega
    have p1 := fun H => pcx_N (H := H) rfl (ahead_pc left pre (x :: r) rest u1 (by rw [← a1]; exact hn) hc)
    have d1 := row_ptr pre x r rest
    have d2 := row_key pre x r rest
    rw [← a1] at p1 d1 d2
    simp only [row] at p1
    by_cases hq : x.2 = lastP left pre
    · simp (disch := omega) only [wk, avalE, aactE, evPE, boundE, asNat, bv_seql cellsEq_ii, bv_sneqd cellsEq_ii, readC, allOne, fillL, resE, tupled, ↓reduceIte, Nat.reduceEqDiff, Int.reduceEq, Int.reduceLT, Int.reduceLE, Nat.reduceAdd, Nat.reduceMul, Nat.reduceLT, Nat.reduceLeDiff, reduceCtorEq, E0, E1, E8, row, rw1, p1, d1, hq]
      refine ih (pre ++ [x], r, out, at_) _ _ _ (by simp) ?_
      refine ⟨by simp [a1], by simp only [a2, rawL, hx, if_false, List.length_append, List.length_cons, List.length_nil]; omega, ?_, ?_, by simp only [List.length_append, List.length_cons, List.length_nil]; omega, a6, by simp only [en, ↓reduceIte, Nat.reduceEqDiff, E0], by simp only [en, ↓reduceIte, Nat.reduceEqDiff, E1, row], by simp only [en, ↓reduceIte, Nat.reduceEqDiff], rfl, by simp only [en, ↓reduceIte, Nat.reduceEqDiff]; exact o1, by simp only [en, ↓reduceIte, Nat.reduceEqDiff]; exact z1, by simp only [en, ↓reduceIte, Nat.reduceEqDiff]; exact o2, by simp only [en, ↓reduceIte, Nat.reduceEqDiff]; exact z2, by simp only [en, ↓reduceIte, Nat.reduceEqDiff]; exact hne⟩
      · rw [a3]; simp only [rdL, hx, if_false, ← hq, if_true, lastP_snoc]
      · rw [a4]; simp only [atL, hx, if_false, ← hq, if_true, lastP_snoc, List.length_append, List.length_cons, List.length_nil, Nat.zero_add]
    · simp (disch := omega) only [wk, avalE, aactE, evPE, boundE, asNat, bv_seql cellsEq_ii, bv_sneqd cellsEq_ii, readC, allOne, fillL, resE, tupled, ↓reduceIte, Nat.reduceEqDiff, Int.reduceEq, Int.reduceLT, Int.reduceLE, Nat.reduceAdd, Nat.reduceMul, Nat.reduceLT, Nat.reduceLeDiff, reduceCtorEq, E0, E1, E8, row, rw1, p1, d1, d2, hq, List.append_nil, List.append_nil]
      refine runX_app o1 (by omega) (by omega) (by omega) (by omega) rfl rfl (fun H1 q1 q2 q3 => ?_)
      simp (disch := omega) only [wk, avalE, aactE, evPE, boundE, asNat, bv_seql cellsEq_ii, bv_sneqd cellsEq_ii, readC, allOne, fillL, resE, tupled, ↓reduceIte, Nat.reduceEqDiff, Int.reduceEq, Int.reduceLT, Int.reduceLE, Nat.reduceAdd, Nat.reduceMul, Nat.reduceLT, Nat.reduceLeDiff, reduceCtorEq, E0, E1, E8, List.append_nil, List.append_nil]
      have o2' := o2.kept q2 hne
      refine runX_app o2' (by omega) (by omega) (by omega) (by omega) rfl rfl (fun H2 r1 r2 r3 => ?_)
      simp (disch := omega) only [wk, avalE, aactE, evPE, boundE, asNat, bv_seql cellsEq_ii, bv_sneqd cellsEq_ii, readC, allOne, fillL, resE, tupled, ↓reduceIte, Nat.reduceEqDiff, Int.reduceEq, Int.reduceLT, Int.reduceLE, Nat.reduceAdd, Nat.reduceMul, Nat.reduceLT, Nat.reduceLeDiff, reduceCtorEq, E0, E1, E8]
      refine ih (pre ++ [x], r, out ++ [x], at_ ++ [(pre.length : Int)]) _ _ _ (by simp) ?_
      have s1 : encs pairA (out ++ [x]) = encs pairA out ++ [.int .u64 x.1, .int .u64 x.2] := by rw [encs_append]; rfl
      have s2 : encs intA (at_ ++ [(pre.length : Int)]) = encs intA at_ ++ [.int .i64 pre.length] := by rw [encs_append]; rfl
      refine ⟨by simp [a1], by simp only [a2, rawL, hx, if_false, List.length_append, List.length_cons, List.length_nil]; omega, ?_, ?_, by simp only [List.length_append, List.length_cons, List.length_nil]; omega, by simp [a6], by simp only [en, ↓reduceIte, Nat.reduceEqDiff, E0], by simp only [en, ↓reduceIte, Nat.reduceEqDiff, E1, row], by simp only [en, ↓reduceIte, Nat.reduceEqDiff], rfl, ?_, ?_, ?_, ?_, ?_⟩
      · rw [a3]; simp only [rdL, hx, if_false, hq, lastP_snoc, List.append_assoc, List.cons_append, List.nil_append]
      · rw [a4]; simp only [atL, hx, if_false, hq, lastP_snoc, List.append_assoc, List.cons_append, List.nil_append, List.length_append, List.length_cons, List.length_nil, Nat.zero_add]
      · simp only [s1]
        simp only [en, ↓reduceIte, Nat.reduceEqDiff]
        refine q1.kept r2 ?_
        by_cases ht : tokOf (E 7) = none
        · exact .inl ht
        · right
          intro e
          obtain ⟨g, hg⟩ := Option.ne_none_iff_exists'.1 ht
          have := o2.tok_lt hg
          rw [hg] at e
          simp only [tokOf, Option.some.injEq] at e
          omega
      · simp only [en, ↓reduceIte, Nat.reduceEqDiff]; intro a b c e; cases e
      · simp only [s2]
        simp only [en, ↓reduceIte, Nat.reduceEqDiff]
        exact r1
      · simp only [en, ↓reduceIte, Nat.reduceEqDiff]; intro a b c e; cases e
      · right
        simp only [en, ↓reduceIte, Nat.reduceEqDiff]
        simp only [tokOf, ne_eq, Option.some.injEq]
        omega
theorem fine_px (left : Int) (l : List (Int × Int)) (s : Nat) (tk : Tk) (H : Heap) (hn : l.length ≤ 1000) (hz : l ≠ [] → s = 2) :
    pcx (cbL tab) 113 [.int .u64 left, .sl s l.length (encs pairA l) tk] H = some (.plain (.bool (decide (risingL l ∧ distL [left] l)))) := by
  obtain ⟨u1, e1, f1⟩ := lend_sl s l.length (encs pairA l) tk
  refine pcx_N rfl (pc_wp (fi := c113) rfl ?_ (by simp [c113]) (by decide) ?_)
  · simp only [pcOn, List.map_cons, List.map_nil, hfL, hf_lend_sl, hf_lend_int, hf_lend_bool, hf_lend_str, hfL_append, Bool.and_self, Bool.and_true, Bool.true_and, c113, hf_pairA]
  unfold c113
  rw [List.map_cons, List.map_cons, List.map_nil, e1, lend_int]
  simp (disch := omega) only [wk, avalE, aactE, evPE, boundE, asNat, bv_seql cellsEq_ii, bv_sneqd cellsEq_ii, readC, allOne, fillL, resE, tupled, ↓reduceIte, Nat.reduceEqDiff, Int.reduceEq, Int.reduceLT, Int.reduceLE, Nat.reduceAdd, Nat.reduceMul, Nat.reduceLT, Nat.reduceLeDiff, reduceCtorEq]
  refine loop_ind (fun (x : List (Int × Int) × List (Int × Int)) E df H => l = x.1 ++ x.2 ∧ ((risingL l ∧ distL [left] l) ↔ fineF left x.1 x.2) ∧ E 0 = .int .u64 left ∧ E 1 = .sl s l.length (encs pairA l) u1 ∧ E 5 = .int .i64 (x.1.length : Nat) ∧ df = [] ∧ H = [])
    (fun x => x.2.length) ([], l) (by decide) (.inl rfl) ⟨rfl, (fineF_top left l).symm, rfl, rfl, rfl, rfl, rfl⟩ ?_
  intro ⟨pre, suf⟩ E df H ih hP
  obtain ⟨a1, a2, E0, E1, E5, hdf, hH⟩ := hP
  dsimp only at a1 a2 E5
  subst hdf hH
  have hl : l.length = pre.length + suf.length := by rw [a1, List.length_append]
  have hcl : (encs pairA l).length = l.length * 2 := encs_length l
  cases suf with
  | nil =>
    simp only [List.length_nil] at hl
    have : risingL l ∧ distL [left] l := a2.2 trivial
    simp (disch := omega) only [wk, avalE, aactE, evPE, boundE, asNat, bv_seql cellsEq_ii, bv_sneqd cellsEq_ii, readC, allOne, fillL, resE, tupled, ↓reduceIte, Nat.reduceEqDiff, Int.reduceEq, Int.reduceLT, Int.reduceLE, Nat.reduceAdd, Nat.reduceMul, Nat.reduceLT, Nat.reduceLeDiff, reduceCtorEq, E0, E1, E5, purify, unownT, lend, unown, AV.hf, this]
  | cons x r =>
    simp only [List.length_cons] at hl
    obtain rfl := hz (by rw [a1]; simp)
    obtain ⟨k, q⟩ := x
    have d1 : List.drop (pre.length * 2) (encs pairA l) = pairA (k, q) ++ encs pairA r := by rw [a1, drop_pre, encs_cons]
    have hh := fun H => pcx_N (H := H) rfl (has_pc pre q (encs pairA ((k, q) :: r)) 2 .ro (by omega) (fun _ => rfl) (hf_pairA _))
    rw [← encs_append, ← a1] at hh
    simp only [pairA] at d1
    rcases List.eq_nil_or_concat pre with rfl | ⟨p', y, rfl⟩
    · have hrs : rises [] (k, q) := trivial
      simp only [List.length_nil, Nat.zero_mul, List.drop_zero] at d1
      simp only [List.length_nil, d1, pairA, List.cons_append, List.nil_append] at E5 hh hl
      by_cases hh1 : hasL [] q
      · have hno : ¬ (risingL l ∧ distL [left] l) := fun h => (a2.1 h).2.1 hh1
        simp (disch := omega) only [wk, avalE, aactE, evPE, boundE, asNat, bv_seql cellsEq_ii, bv_sneqd cellsEq_ii, readC, allOne, fillL, resE, tupled, ↓reduceIte, Nat.reduceEqDiff, Int.reduceEq, Int.reduceLT, Int.reduceLE, Nat.reduceAdd, Nat.reduceMul, Nat.reduceLT, Nat.reduceLeDiff, reduceCtorEq, E0, E1, E5, d1, List.drop_zero,  hcl, hh, hh1, purify, unownT, lend, unown, AV.hf, hno]
      by_cases hql : q = left
      · have hno : ¬ (risingL l ∧ distL [left] l) := fun h => (a2.1 h).2.2.1 hql
        subst hql
        simp (disch := omega) only [wk, avalE, aactE, evPE, boundE, asNat, bv_seql cellsEq_ii, bv_sneqd cellsEq_ii, readC, allOne, fillL, resE, tupled, ↓reduceIte, Nat.reduceEqDiff, Int.reduceEq, Int.reduceLT, Int.reduceLE, Nat.reduceAdd, Nat.reduceMul, Nat.reduceLT, Nat.reduceLeDiff, reduceCtorEq, E0, E1, E5, d1, List.drop_zero,  hcl, hh, hh1, purify, unownT, lend, unown, AV.hf, hno]
      simp (disch := omega) only [wk, avalE, aactE, evPE, boundE, asNat, bv_seql cellsEq_ii, bv_sneqd cellsEq_ii, readC, allOne, fillL, resE, tupled, ↓reduceIte, Nat.reduceEqDiff, Int.reduceEq, Int.reduceLT, Int.reduceLE, Nat.reduceAdd, Nat.reduceMul, Nat.reduceLT, Nat.reduceLeDiff, reduceCtorEq, E0, E1, E5, d1, List.drop_zero,  hcl, hh, hh1, hql]
      refine ih ([] ++ [(k, q)], r) _ _ _ (by simp) ?_
      exact ⟨by simp [a1], by rw [a2]; simp only [fineF, hrs, hh1, hql, not_false_eq_true, ne_eq, true_and], by simp only [en, ↓reduceIte, Nat.reduceEqDiff, E0], by simp only [en, ↓reduceIte, Nat.reduceEqDiff, E1], by simp only [en, ↓reduceIte, Nat.reduceEqDiff], rfl, rfl⟩
    · simp only [List.concat_eq_append] at *
      have i1 : ((p'.length : Int) + 1 - 1) = p'.length := by omega
      have i2 : ((p'.length : Int) + 1).toNat = p'.length + 1 := by omega
      have d2 : List.drop (p'.length * 2) (encs pairA l) = pairA y ++ encs pairA ((k, q) :: r) := by rw [a1, List.append_assoc, List.cons_append, List.nil_append, drop_pre, encs_cons]
      simp only [pairA, List.length_append, List.length_cons, List.length_nil, Nat.zero_add] at d1 d2 hl hh
      by_cases hrs : rises (p' ++ [y]) (k, q)
      case neg =>
        have hno : ¬ (risingL l ∧ distL [left] l) := fun h => hrs (a2.1 h).1
        have hyk : k ≤ y.1 := by simpa [rises] using hrs
        simp (disch := omega) only [wk, avalE, aactE, evPE, boundE, asNat, bv_seql cellsEq_ii, bv_sneqd cellsEq_ii, readC, allOne, fillL, resE, tupled, ↓reduceIte, Nat.reduceEqDiff, Int.reduceEq, Int.reduceLT, Int.reduceLE, Nat.reduceAdd, Nat.reduceMul, Nat.reduceLT, Nat.reduceLeDiff, reduceCtorEq, E0, E1, E5, i1, i2, d1, d2, hyk, purify, unownT, lend, unown, AV.hf, hno]
      have hyk : ¬ k ≤ y.1 := by simpa [rises] using hrs
      by_cases hh1 : hasL (p' ++ [y]) q
      · have hno : ¬ (risingL l ∧ distL [left] l) := fun h => (a2.1 h).2.1 hh1
        simp (disch := omega) only [wk, avalE, aactE, evPE, boundE, asNat, bv_seql cellsEq_ii, bv_sneqd cellsEq_ii, readC, allOne, fillL, resE, tupled, ↓reduceIte, Nat.reduceEqDiff, Int.reduceEq, Int.reduceLT, Int.reduceLE, Nat.reduceAdd, Nat.reduceMul, Nat.reduceLT, Nat.reduceLeDiff, reduceCtorEq, E0, E1, E5, i1, i2, d1, d2, hyk,  hcl, hh, hh1, purify, unownT, lend, unown, AV.hf, hno]
      by_cases hql : q = left
      · have hno : ¬ (risingL l ∧ distL [left] l) := fun h => (a2.1 h).2.2.1 hql
        subst hql
        simp (disch := omega) only [wk, avalE, aactE, evPE, boundE, asNat, bv_seql cellsEq_ii, bv_sneqd cellsEq_ii, readC, allOne, fillL, resE, tupled, ↓reduceIte, Nat.reduceEqDiff, Int.reduceEq, Int.reduceLT, Int.reduceLE, Nat.reduceAdd, Nat.reduceMul, Nat.reduceLT, Nat.reduceLeDiff, reduceCtorEq, E0, E1, E5, i1, i2, d1, d2, hyk,  hcl, hh, hh1, purify, unownT, lend, unown, AV.hf, hno]
      simp (disch := omega) only [wk, avalE, aactE, evPE, boundE, asNat, bv_seql cellsEq_ii, bv_sneqd cellsEq_ii, readC, allOne, fillL, resE, tupled, ↓reduceIte, Nat.reduceEqDiff, Int.reduceEq, Int.reduceLT, Int.reduceLE, Nat.reduceAdd, Nat.reduceMul, Nat.reduceLT, Nat.reduceLeDiff, reduceCtorEq, E0, E1, E5, i1, i2, d1, d2, hyk,  hcl, hh, hh1, hql]
      refine ih ((p' ++ [y]) ++ [(k, q)], r) _ _ _ (by simp) ?_
      exact ⟨by simp [a1], by rw [a2]; simp only [fineF, hrs, hh1, hql, not_false_eq_true, ne_eq, true_and], by simp only [en, ↓reduceIte, Nat.reduceEqDiff, E0], by simp only [en, ↓reduceIte, Nat.reduceEqDiff, E1], by simp only [en, ↓reduceIte, Nat.reduceEqDiff], rfl, rfl⟩
theorem slvR_len {α : Type} {sz : Nat} {f : α → List AV} (l : List α) (E : Env) (H : Heap) (x : X) (h : x.evE E = slvR sz f l) : avalE (.len 0 x) E H = some (.int .i64 l.length) := by
  obtain ⟨s, tk, e, _⟩ := slvR_form sz f l
  simp only [avalE, h, e]
theorem check_no (left : Int) (n : Nat) (cs : List AV) (tk : Tk) (H : Heap) (hn : (n : Int) ≤ 9223372036854775807) (hc : hfL cs = true) (hr : ¬ right left n) :
    pcx (cbL tab) 66 [.int .u64 left, .sl 1 n cs tk] H = some (.plain (.int .i64 2)) := by
  obtain ⟨u1, e1, f1⟩ := lend_sl 1 n cs tk
  refine pcx_N rfl (pc_wp (fi := c66) rfl ?_ (by simp [c66]) (by decide) ?_)
  · simp only [pcOn, List.map_cons, List.map_nil, hfL, hf_lend_sl, hf_lend_int, hf_lend_bool, hf_lend_str, hfL_append, Bool.and_self, Bool.and_true, Bool.true_and, c66, hc]
  unfold c66
  rw [List.map_cons, List.map_cons, List.map_nil, e1, lend_int]
  have r1 := fun H => pcx_N (H := H) rfl (right_pc left n cs u1 hn hc)
  simp (disch := omega) only [wk, avalE, aactE, evPE, boundE, asNat, bv_seql cellsEq_ii, bv_sneqd cellsEq_ii, readC, allOne, fillL, resE, tupled, ↓reduceIte, Nat.reduceEqDiff, Int.reduceEq, Int.reduceLT, Int.reduceLE, Nat.reduceAdd, Nat.reduceMul, Nat.reduceLT, Nat.reduceLeDiff, reduceCtorEq, r1, hr, purify, unownT, lend, unown, AV.hf]
theorem check_yes (left : Int) (ps : List (Int × Int)) (rest : List AV) (tk : Tk) (H : Heap) (hc : hfL rest = true) (hr : right left (2 * ps.length)) :
    pcx (cbL tab) 66 [.int .u64 left, row ps rest tk] H = some (.plain (.int .i64 (if okL left ps then 0 else 190))) := by
  obtain ⟨u1, e1, f1⟩ := lend_sl 1 (2 * ps.length) (encs pairA ps ++ rest) tk
  have hcs : hfL (encs pairA ps ++ rest) = true := by rw [hfL_append, hf_pairA, hc]; rfl
  have hn := hr.2.2.2
  have hlen := rdL_le left ps
  have hraw := rawL_le ps
  refine pcx_N rfl (pc_wp (fi := c66) rfl ?_ (by simp [c66]) (by decide) ?_)
  · simp only [pcOn, List.map_cons, List.map_nil, hfL, hf_lend_sl, hf_lend_int, hf_lend_bool, hf_lend_str, hfL_append, Bool.and_self, Bool.and_true, Bool.true_and, c66, row, hcs, hc, hf_pairA]
  unfold c66
  rw [List.map_cons, List.map_cons, List.map_nil, row, e1, lend_int]
  have r1 := fun H => pcx_N (H := H) rfl (right_pc left (2 * ps.length) (encs pairA ps ++ rest) u1 (by omega) hcs)
  have r2 := fun H => refread_px left ps rest u1 H (by omega) hc
  have r3 := fun H => pcx_N (H := H) rfl (raw_pc ps rest u1 (by omega) hc)
  obtain ⟨s, tk', es, hz, htk⟩ := slvR_form 2 pairA (rdL left ps)
  have r4 := fun H => fine_px left (rdL left ps) s tk' H (by omega) hz
  rw [es] at r2
  simp only [row] at r2 r3
  by_cases hf : risingL (rdL left ps) ∧ distL [left] (rdL left ps)
  case neg =>
    have hno : ¬ okL left ps := fun h => hf ⟨h.1, h.2.1⟩
    simp (disch := omega) only [wk, avalE, aactE, evPE, boundE, asNat, bv_seql cellsEq_ii, bv_sneqd cellsEq_ii, readC, allOne, fillL, resE, tupled, ↓reduceIte, Nat.reduceEqDiff, Int.reduceEq, Int.reduceLT, Int.reduceLE, Nat.reduceAdd, Nat.reduceMul, Nat.reduceLT, Nat.reduceLeDiff, reduceCtorEq, r1, hr, r2, r3, r4, hf, hno, purify, unownT, lend, unown, AV.hf]
  by_cases hlr : (rdL left ps).length = rawL ps
  case neg =>
    have hno : ¬ okL left ps := fun h => hlr h.2.2.1
    have hlr' : ¬ ((rdL left ps).length : Int) = (rawL ps : Nat) := by omega
    simp (disch := omega) only [wk, avalE, aactE, evPE, boundE, asNat, bv_seql cellsEq_ii, bv_sneqd cellsEq_ii, readC, allOne, fillL, resE, tupled, ↓reduceIte, Nat.reduceEqDiff, Int.reduceEq, Int.reduceLT, Int.reduceLE, Nat.reduceAdd, Nat.reduceMul, Nat.reduceLT, Nat.reduceLeDiff, reduceCtorEq, r1, hr, r2, r3, r4, hf, hlr', hno, purify, unownT, lend, unown, AV.hf]
  simp only [hlr] at r4
  by_cases hlm : (rdL left ps).length < ps.length
  case neg =>
    have hno : ¬ okL left ps := fun h => hlm h.2.2.2.1
    have hlm' : ((2 * ps.length : Nat) : Int) / 2 ≤ (rawL ps : Int) := by omega
    simp (disch := omega) only [wk, avalE, aactE, evPE, boundE, asNat, bv_seql cellsEq_ii, bv_sneqd cellsEq_ii, readC, allOne, fillL, resE, tupled, ↓reduceIte, Nat.reduceEqDiff, Int.reduceEq, Int.reduceLT, Int.reduceLE, Nat.reduceAdd, Nat.reduceMul, Nat.reduceLT, Nat.reduceLeDiff, reduceCtorEq, r1, hr, r2, r3, r4, hf, hlr, hlm', hno, purify, unownT, lend, unown, AV.hf]
  have hlm' : ¬ ((2 * ps.length : Nat) : Int) / 2 ≤ (rawL ps : Int) := by omega
  simp (disch := omega) only [wk, avalE, aactE, evPE, boundE, asNat, bv_seql cellsEq_ii, bv_sneqd cellsEq_ii, readC, allOne, fillL, resE, tupled, ↓reduceIte, Nat.reduceEqDiff, Int.reduceEq, Int.reduceLT, Int.reduceLE, Nat.reduceAdd, Nat.reduceMul, Nat.reduceLT, Nat.reduceLeDiff, reduceCtorEq, r1, hr, r2, r3, r4, hf, hlr, hlm']
  have hup : (rawL ps : Int) = (ps.take (rawL ps)).length := by rw [List.length_take]; omega
  refine loop_ind (fun (x : List (Int × Int) × List (Int × Int)) E df H => ps = x.1 ++ x.2 ∧ (zeroL (ps.drop (rawL ps)) ↔ zeroL x.2) ∧ E 1 = row ps rest u1 ∧ E 7 = .int .i64 (x.1.length : Nat) ∧ df = [] ∧ H = [])
    (fun x => x.2.length) (ps.take (rawL ps), ps.drop (rawL ps)) (by decide) (.inl rfl) ⟨by simp, Iff.rfl, rfl, by simp only [en, ↓reduceIte, Nat.reduceEqDiff, hup], rfl, rfl⟩ ?_
  intro ⟨pre, suf⟩ E df H ih hP
  obtain ⟨a1, a2, E1, E7, hdf, hH⟩ := hP
  dsimp only at a1 a2 E7
  subst hdf hH
  have hl : ps.length = pre.length + suf.length := by rw [a1, List.length_append]
  cases suf with
  | nil =>
    simp only [List.length_nil] at hl
    have hok : okL left ps := ⟨hf.1, hf.2, hlr, hlm, by rw [hlr]; exact a2.2 (fun x hx => by simp at hx)⟩
    simp (disch := omega) only [wk, avalE, aactE, evPE, boundE, asNat, bv_seql cellsEq_ii, bv_sneqd cellsEq_ii, readC, allOne, fillL, resE, tupled, ↓reduceIte, Nat.reduceEqDiff, Int.reduceEq, Int.reduceLT, Int.reduceLE, Nat.reduceAdd, Nat.reduceMul, Nat.reduceLT, Nat.reduceLeDiff, reduceCtorEq, E1, E7, row, hok, purify, unownT, lend, unown, AV.hf]
  | cons x r =>
    simp only [List.length_cons] at hl
    have d1 := row_ptr pre x r rest
    rw [← a1] at d1
    by_cases hx : x.2 = 0
    · simp (disch := omega) only [wk, avalE, aactE, evPE, boundE, asNat, bv_seql cellsEq_ii, bv_sneqd cellsEq_ii, readC, allOne, fillL, resE, tupled, ↓reduceIte, Nat.reduceEqDiff, Int.reduceEq, Int.reduceLT, Int.reduceLE, Nat.reduceAdd, Nat.reduceMul, Nat.reduceLT, Nat.reduceLeDiff, reduceCtorEq, E1, E7, row, d1, hx]
      refine ih (pre ++ [x], r) _ _ _ (by simp) ?_
      exact ⟨by simp [a1], by rw [a2]; simp [zeroL, hx], by simp only [en, ↓reduceIte, Nat.reduceEqDiff, E1, row], by simp only [en, ↓reduceIte, Nat.reduceEqDiff], rfl, rfl⟩
    · have hno : ¬ okL left ps := fun h => by
        have := a2.1 (by rw [← hlr]; exact h.2.2.2.2)
        exact hx (this x (List.mem_cons_self ..))
      simp (disch := omega) only [wk, avalE, aactE, evPE, boundE, asNat, bv_seql cellsEq_ii, bv_sneqd cellsEq_ii, readC, allOne, fillL, resE, tupled, ↓reduceIte, Nat.reduceEqDiff, Int.reduceEq, Int.reduceLT, Int.reduceLE, Nat.reduceAdd, Nat.reduceMul, Nat.reduceLT, Nat.reduceLeDiff, reduceCtorEq, E1, E7, row, d1, hx, hno, purify, unownT, lend, unown, AV.hf]
end Go.Proofs.Ytailfegmnkldoaa
