/- THE WALKS OF rising AND settled. No condition but those stated. -/
import Derived.Test.YtailfegmnkldoaaS4
set_option linter.unusedSimpArgs false
set_option linter.unusedVariables false
set_option linter.unusedSectionVars false
namespace Go.Proofs.Ytailfegmnkldoaa
open Go Go.Am Go.Slots
set_option maxHeartbeats 2000000
set_option maxRecDepth 10000
theorem rising_px (l : List (Int × Int)) (sz : Nat) (tk : Tk) (H : Heap) (hn : l.length ≤ 1000) (hz : l ≠ [] → sz = 2) :
    pcx (cbL tab) 177 [.sl sz l.length (encs pairA l) tk, .fn 178 []] H = some (.plain (.bool (decide (risingL l)))) := by
  obtain ⟨u1, e1, f1⟩ := lend_sl sz l.length (encs pairA l) tk
  refine pcx_N rfl (pc_wp (fi := c177) rfl ?_ (by simp [c177]) (by decide) ?_)
  · simp only [pcOn, List.map_cons, List.map_nil, hfL, hf_lend_sl, hf_lend_int, hf_lend_bool, hf_lend_str, hfL_append, Bool.and_self, Bool.and_true, Bool.true_and, c177, hf_pairA]; rfl
  unfold c177
  rw [List.map_cons, List.map_cons, List.map_nil, e1]
  have el : lend (.fn 178 []) = .fn 178 [] := rfl
  rw [el]
  simp (disch := omega) only [wk, avalE, aactE, evPE, boundE, asNat, bv_seql cellsEq_ii, bv_sneqd cellsEq_ii, readC, allOne, fillL, resE, tupled, ↓reduceIte, Nat.reduceEqDiff, Int.reduceEq, Int.reduceLT, Int.reduceLE, Nat.reduceAdd, Nat.reduceMul, Nat.reduceLT, Nat.reduceLeDiff, reduceCtorEq]
  cases l with
  | nil =>
    rw [ret_loop]
    have : risingL [] := trivial
    simp (disch := omega) only [wk, avalE, aactE, evPE, boundE, asNat, bv_seql cellsEq_ii, bv_sneqd cellsEq_ii, readC, allOne, fillL, resE, tupled, ↓reduceIte, Nat.reduceEqDiff, Int.reduceEq, Int.reduceLT, Int.reduceLE, Nat.reduceAdd, Nat.reduceMul, Nat.reduceLT, Nat.reduceLeDiff, reduceCtorEq, purify, unownT, lend, unown, AV.hf, this]
  | cons x0 r0 =>
  obtain rfl := hz (by simp)
  refine loop_ind (fun (x : List (Int × Int) × (Int × Int) × List (Int × Int)) E df H => x0 :: r0 = x.1 ++ x.2.1 :: x.2.2 ∧ (risingL (x0 :: r0) ↔ risingL (x.2.1 :: x.2.2)) ∧ E 0 = .sl 2 (x0 :: r0).length (encs pairA (x0 :: r0)) u1 ∧ E 1 = .fn 178 [] ∧ E 5 = .int .i64 ((x.1.length : Nat) + 1) ∧ df = [] ∧ H = [])
    (fun x => x.2.2.length) ([], x0, r0) (by decide) (.inl rfl) ⟨rfl, Iff.rfl, rfl, rfl, rfl, rfl, rfl⟩ ?_
  intro ⟨pre, x, suf⟩ E df H ih hP
  obtain ⟨a1, a2, E0, E1, E5, hdf, hH⟩ := hP
  dsimp only at a1 a2 E5
  subst hdf hH
  rw [a1] at hn a2 E0 ih
  rw [a1]
  simp only [List.length_append, List.length_cons] at hn
  cases suf with
  | nil =>
    have : risingL (pre ++ [x]) := a2.2 trivial
    simp (disch := omega) only [wk, avalE, aactE, evPE, boundE, asNat, bv_seql cellsEq_ii, bv_sneqd cellsEq_ii, readC, allOne, fillL, resE, tupled, ↓reduceIte, Nat.reduceEqDiff, Int.reduceEq, Int.reduceLT, Int.reduceLE, Nat.reduceAdd, Nat.reduceMul, Nat.reduceLT, Nat.reduceLeDiff, reduceCtorEq, E0, E1, E5, purify, unownT, lend, unown, AV.hf, this]
  | cons y r =>
    simp only [List.length_cons] at hn
    have i1 : (pre.length : Int) + 1 - 1 = pre.length := by omega
    have d2 : List.drop (((pre.length : Int) + 1).toNat * 2) (encs pairA (pre ++ x :: y :: r)) = pairA y ++ encs pairA r := by
      have := drop_pre (f := pairA) (pre ++ [x]) (y :: r)
      have e : (pre ++ [x]).length * 2 = ((pre.length : Int) + 1).toNat * 2 := by simp
      rw [e, encs_cons, List.append_assoc] at this
      exact this
    have p1 := fun H => less_px x y H
    simp only [pairA] at p1 d2
    by_cases hx : x.1 < y.1
    · simp (disch := omega) only [wk, avalE, aactE, evPE, boundE, asNat, bv_seql cellsEq_ii, bv_sneqd cellsEq_ii, readC, allOne, fillL, resE, tupled, ↓reduceIte, Nat.reduceEqDiff, Int.reduceEq, Int.reduceLT, Int.reduceLE, Nat.reduceAdd, Nat.reduceMul, Nat.reduceLT, Nat.reduceLeDiff, reduceCtorEq, E0, E1, E5, i1, d2, pairA, p1, hx]
      refine ih (pre ++ [x], y, r) _ _ _ (by simp) ?_
      exact ⟨by simp, by rw [a2]; simp [risingL, hx], by simp only [en, ↓reduceIte, Nat.reduceEqDiff, E0], by simp only [en, ↓reduceIte, Nat.reduceEqDiff, E1], by simp only [en, ↓reduceIte, Nat.reduceEqDiff], rfl, rfl⟩
    · have : ¬ risingL (pre ++ x :: y :: r) := by rw [a2]; simp [risingL, hx]
      simp (disch := omega) only [wk, avalE, aactE, evPE, boundE, asNat, bv_seql cellsEq_ii, bv_sneqd cellsEq_ii, readC, allOne, fillL, resE, tupled, ↓reduceIte, Nat.reduceEqDiff, Int.reduceEq, Int.reduceLT, Int.reduceLE, Nat.reduceAdd, Nat.reduceMul, Nat.reduceLT, Nat.reduceLeDiff, reduceCtorEq, E0, E1, E5, i1, d2, pairA, p1, hx, purify, unownT, lend, unown, AV.hf, this]
/-- The entries of a map of what was seen. -/
def seenE (seen : List Int) : List (AV × AV) := seen.map fun k => (.int .u64 k, .int .i64 1)
theorem findA_seen (k : Int) : ∀ (seen : List Int) (i : Nat), k ∉ seen → findA 0 (.int .u64 k) (seenE seen) i = some none
  | [], _, _ => rfl
  | x :: r, i, h => by
    simp only [List.mem_cons, not_or] at h
    have hb : (k == x) = false := by simp [h.1]
    simp only [seenE, List.map_cons, findA, cellEq, if_true, hb]
    exact findA_seen k r (i + 1) h.2
theorem findA_seen_in (k : Int) : ∀ (seen : List Int) (i : Nat), k ∈ seen → ∃ j, findA 0 (.int .u64 k) (seenE seen) i = some (some (j, .int .i64 1))
  | [], _, h => by simp at h
  | x :: r, i, h => by
    by_cases hx : k = x
    · subst hx
      exact ⟨i, by simp [seenE, findA, cellEq]⟩
    · have hb : (k == x) = false := by simp [hx]
      simp only [List.mem_cons, hx, false_or] at h
      obtain ⟨j, hj⟩ := findA_seen_in k r (i + 1) h
      refine ⟨j, ?_⟩
      simp only [seenE, List.map_cons, findA, cellEq, if_true, hb]
      exact hj
theorem settled_no (n : Nat) (cs : List AV) (tk : Tk) (left : Int) (H : Heap) (hn : (n : Int) ≤ 9223372036854775807) (hc : hfL cs = true) (ht : tk.hf = true) (hr : ¬ right left n) :
    pcx (cbL tab) 151 [rowV n cs tk left] H = some (.pan [(.iface 25 (.int .i64 2), false)]) := by
  obtain ⟨u1, e1, f1⟩ := lend_rowV n cs tk left
  refine pcx_Lp rfl (by rw [List.map_cons, List.map_nil, lendK_rowV]) (pc_wp (fi := c151) rfl ?_ (by simp [c151]) (by decide) ?_) rfl
  · simp only [pcOn, List.map_cons, List.map_nil, hfL, hf_lend_sl, hf_lend_int, hf_lend_bool, hf_lend_str, hfL_append, Bool.and_self, Bool.and_true, Bool.true_and, c151, hf_rowV, hf_lend_rowV, hc, ht]
  unfold c151
  rw [List.map_cons, List.map_nil, e1, rowV]
  have r1 := fun H => slotsright_px left n cs u1 H hn hc f1
  rw [rowV] at r1
  have m1 := fun H => must_px (decide (right left n)) 2 H
  simp only [hr, decide_false, Bool.false_eq_true, if_false] at m1
  simp (disch := omega) only [wk, avalE, aactE, evPE, boundE, asNat, bv_seql cellsEq_ii, bv_sneqd cellsEq_ii, readC, allOne, fillL, resE, tupled, ↓reduceIte, Nat.reduceEqDiff, Int.reduceEq, Int.reduceLT, Int.reduceLE, Nat.reduceAdd, Nat.reduceMul, Nat.reduceLT, Nat.reduceLeDiff, reduceCtorEq, r1, hr, m1, purify, hfL, AV.hf]
theorem must_t (e : Int) (H : Heap) : pcx (cbL tab) 145 [.bool true, .int .i64 e] H = some (.plain (.tup [])) := by rw [must_px, if_pos rfl]
theorem must_f (e : Int) (H : Heap) : pcx (cbL tab) 145 [.bool false, .int .i64 e] H = some (.pan [(.iface 25 (.int .i64 e), false)]) := by rw [must_px, if_neg (by simp)]
theorem purify_pan {c : List (AV × Bool)} {H : Heap} (h : hfL (c.map (·.1)) = true) : purify (some (.pan c, H)) = some (.pan c) := by
  simp only [purify, h, if_true]
theorem scal_pairA (l : List (Int × Int)) : (encs pairA l).all (·.scal) = true := by
  induction l with
  | nil => rfl
  | cons x r ih => rw [encs_cons, List.all_append, ih]; rfl
theorem settled_yes (ps : List (Int × Int)) (rest : List AV) (tk : Tk) (left : Int) (H : Heap) (hc : hfL rest = true) (ht : tk.hf = true) (hr : right left (2 * ps.length)) :
    pcx (cbL tab) 151 [rowV (2 * ps.length) (encs pairA ps ++ rest) tk left] H = if okL left ps then some (prRow 2 pairA (rdL left ps)) else some (.pan [(.iface 25 (.int .i64 190), false)]) := by
  obtain ⟨u1, e1, f1⟩ := lend_rowV (2 * ps.length) (encs pairA ps ++ rest) tk left
  have hcs : hfL (encs pairA ps ++ rest) = true := by rw [hfL_append, hf_pairA, hc]; rfl
  have hn := hr.2.2.2
  have hlen := rdL_le left ps
  have hraw := rawL_le ps
  have main : (cbL tab).pc 151 [rowV (2 * ps.length) (encs pairA ps ++ rest) tk left] = some (if okL left ps then (prRow 2 pairA (rdL left ps)) else (.pan [(.iface 25 (.int .i64 190), false)])) := by
    refine pc_wp (fi := c151) rfl ?_ (by simp [c151]) (by decide) ?_
    · simp only [pcOn, List.map_cons, List.map_nil, hfL, hf_lend_sl, hf_lend_int, hf_lend_bool, hf_lend_str, hfL_append, Bool.and_self, Bool.and_true, Bool.true_and, c151, hf_rowV, hf_lend_rowV, hcs, hc, hf_pairA, ht]
    unfold c151
    rw [List.map_cons, List.map_nil, e1, rowV]
    have r1 := fun H => slotsright_px left (2 * ps.length) (encs pairA ps ++ rest) u1 H (by omega) hcs f1
    have rd := fun H => pcx_N (H := H) rfl (slotsread left ps rest u1 hc hr)
    have rw1 := fun H => slotsraw_px left ps rest u1 H (by omega) hc f1
    have mn := fun H => many_px (2 * ps.length) (encs pairA ps ++ rest) u1 H (by omega) hcs f1
    simp only [rowV, row] at r1 rd rw1
    simp (disch := omega) only [wk, avalE, aactE, evPE, boundE, asNat, bv_seql cellsEq_ii, bv_sneqd cellsEq_ii, readC, allOne, fillL, resE, tupled, ↓reduceIte, Nat.reduceEqDiff, Int.reduceEq, Int.reduceLT, Int.reduceLE, Nat.reduceAdd, Nat.reduceMul, Nat.reduceLT, Nat.reduceLeDiff, reduceCtorEq, r1, hr, must_t, rd]
    refine runE_row (fun s tk' H1 hz ho htk hup hle => ?_)
    have h0 := hup 0 _ rfl
    have hri := fun H => rising_px (rdL left ps) s tk' H (by omega) hz
    by_cases hris : risingL (rdL left ps)
    case neg =>
      have : ¬ okL left ps := fun h => hris h.1
      simp (disch := omega) only [wk, avalE, aactE, evPE, boundE, asNat, bv_seql cellsEq_ii, bv_sneqd cellsEq_ii, readC, allOne, fillL, resE, tupled, ↓reduceIte, Nat.reduceEqDiff, Int.reduceEq, Int.reduceLT, Int.reduceLE, Nat.reduceAdd, Nat.reduceMul, Nat.reduceLT, Nat.reduceLeDiff, reduceCtorEq, hri, hris, must_f, this]
      exact purify_pan rfl
    have e1 : ∀ o : AObj, (H1 ++ [o])[H1.length]? = some o := fun o => by simp
    have e0 : ∀ o : AObj, (H1 ++ [o])[0]? = H1[0]? := fun o => List.getElem?_append_left (by have := (List.getElem?_eq_some_iff.1 h0).1; exact this)
    simp (disch := omega) only [wk, avalE, aactE, evPE, boundE, asNat, bv_seql cellsEq_ii, bv_sneqd cellsEq_ii, readC, allOne, fillL, resE, tupled, ↓reduceIte, Nat.reduceEqDiff, Int.reduceEq, Int.reduceLT, Int.reduceLE, Nat.reduceAdd, Nat.reduceMul, Nat.reduceLT, Nat.reduceLeDiff, reduceCtorEq, hri, hris, must_t, e0, h0, e1, cellEq, findA, beq_self_eq_true]
    have e2 : ∀ o o' : AObj, ((H1 ++ [o]).set H1.length o')[H1.length]? = some o' := fun o o' => by simp
    have e3 : ∀ o o' : AObj, ((H1 ++ [o]).set H1.length o')[0]? = H1[0]? := fun o o' => by
      rw [set_ne (by have := (List.getElem?_eq_some_iff.1 h0).1; omega), e0]
    refine loop_ind (fun (x : List (Int × Int) × List (Int × Int)) E df H2 => rdL left ps = x.1 ++ x.2 ∧ (distL [left] (rdL left ps) ↔ distL (left :: x.1.map (·.2)) x.2) ∧ E 1 = .ptr 0 0 ∧ E 3 = .sl s (rdL left ps).length (encs pairA (rdL left ps)) tk' ∧ E 4 = .mp H1.length ∧
        E 23 = .sl s (rdL left ps).length (encs pairA (rdL left ps)) tk' ∧ E 24 = .int .i64 ((rdL left ps).length : Nat) ∧ E 25 = .int .i64 (x.1.length : Nat) ∧ df = [] ∧ H2[0]? = H1[0]? ∧ H2[H1.length]? = some (.map (seenE (left :: x.1.map (·.2)))) ∧
        Own H2 2 (.sl s (rdL left ps).length (encs pairA (rdL left ps)) tk') (rdL left ps).length (encs pairA (rdL left ps)) ∧ H1.length < H2.length)
      (fun x => x.2.length) ([], rdL left ps) (by decide) (.inl rfl) ⟨rfl, Iff.rfl, by simp only [en, ↓reduceIte, Nat.reduceEqDiff], by simp only [en, ↓reduceIte, Nat.reduceEqDiff], by simp only [en, ↓reduceIte, Nat.reduceEqDiff], by simp only [en, ↓reduceIte, Nat.reduceEqDiff], by simp only [en, ↓reduceIte, Nat.reduceEqDiff], rfl, rfl, e3 _ _, e2 _ _, ?_, by simp⟩ ?_
    · exact (ho.kept (g := none) (fun i q hq _ => by rw [List.getElem?_append_left (List.getElem?_eq_some_iff.1 hq).1]; exact hq) (.inl rfl)).set (e1 _) (by intro s e; cases e)
    intro ⟨pre, suf⟩ E df H2 ih hP
    obtain ⟨a1, a2, E1, E3, E4, E23, E24, E25, hdf, hH0, hHm, ho2, hl2⟩ := hP
    dsimp only at a1 a2 E25 hHm
    subst hdf
    rw [h0] at hH0
    have hl0 : (rdL left ps).length = pre.length + suf.length := by rw [a1, List.length_append]
    cases suf with
    | nil =>
      have hd : distL [left] (rdL left ps) := a2.2 trivial
      simp only [List.length_nil] at hl0
      by_cases hlr : (rdL left ps).length = rawL ps
      case neg =>
        have : ¬ okL left ps := fun h => hlr h.2.2.1
        have hlr' : ¬ ((rdL left ps).length : Int) = (rawL ps : Nat) := by omega
        simp (disch := omega) only [wk, avalE, aactE, evPE, boundE, asNat, bv_seql cellsEq_ii, bv_sneqd cellsEq_ii, readC, allOne, fillL, resE, tupled, ↓reduceIte, Nat.reduceEqDiff, Int.reduceEq, Int.reduceLT, Int.reduceLE, Nat.reduceAdd, Nat.reduceMul, Nat.reduceLT, Nat.reduceLeDiff, reduceCtorEq, E1, E3, E4, E23, E24, E25, hH0, rw1, hlr', must_f, this]
        exact purify_pan rfl
      by_cases hlm : (rdL left ps).length < ps.length
      case neg =>
        have : ¬ okL left ps := fun h => hlm h.2.2.2.1
        have hlm' : ¬ (rawL ps : Int) < (2 * ps.length : Nat) / 2 := by omega
        simp (disch := omega) only [wk, avalE, aactE, evPE, boundE, asNat, bv_seql cellsEq_ii, bv_sneqd cellsEq_ii, readC, allOne, fillL, resE, tupled, ↓reduceIte, Nat.reduceEqDiff, Int.reduceEq, Int.reduceLT, Int.reduceLE, Nat.reduceAdd, Nat.reduceMul, Nat.reduceLT, Nat.reduceLeDiff, reduceCtorEq, E1, E3, E4, E23, E24, E25, hH0, rw1, mn, hlr, hlm', must_f, this]
        exact purify_pan rfl
      have hlm' : (rawL ps : Int) < (2 * ps.length : Nat) / 2 := by omega
      simp (disch := omega) only [wk, avalE, aactE, evPE, boundE, asNat, bv_seql cellsEq_ii, bv_sneqd cellsEq_ii, readC, allOne, fillL, resE, tupled, ↓reduceIte, Nat.reduceEqDiff, Int.reduceEq, Int.reduceLT, Int.reduceLE, Nat.reduceAdd, Nat.reduceMul, Nat.reduceLT, Nat.reduceLeDiff, reduceCtorEq, E1, E3, E4, E23, E24, E25, hH0, rw1, mn, hlr, hlm', must_t]
      have hup : (rawL ps : Int) = (ps.take (rawL ps)).length := by rw [List.length_take]; omega
      refine loop_ind (fun (x : List (Int × Int) × List (Int × Int)) E df H3 => ps = x.1 ++ x.2 ∧ (zeroL (ps.drop (rawL ps)) ↔ zeroL x.2) ∧ E 1 = .ptr 0 0 ∧ E 3 = .sl s (rdL left ps).length (encs pairA (rdL left ps)) tk' ∧ E 7 = .int .i64 (x.1.length : Nat) ∧ df = [] ∧ H3 = H2)
        (fun x => x.2.length) (ps.take (rawL ps), ps.drop (rawL ps)) (by decide) (.inl rfl) ⟨by simp, Iff.rfl, by simp only [en, ↓reduceIte, Nat.reduceEqDiff, E1], by simp only [en, ↓reduceIte, Nat.reduceEqDiff, E3], by simp only [en, ↓reduceIte, Nat.reduceEqDiff, hup], rfl, rfl⟩ ?_
      intro ⟨pre2, suf2⟩ E df H3 ih hP
      obtain ⟨b1, b2, E1, E3, E7, hdf, hH⟩ := hP
      dsimp only at b1 b2 E7
      subst hdf hH
      have hl3 : ps.length = pre2.length + suf2.length := by rw [b1, List.length_append]
      cases suf2 with
      | nil =>
        simp only [List.length_nil] at hl3
        have hok : okL left ps := ⟨hris, hd, hlr, hlm, by rw [hlr]; exact b2.2 (fun x hx => by simp at hx)⟩
        simp (disch := omega) only [wk, avalE, aactE, evPE, boundE, asNat, bv_seql cellsEq_ii, bv_sneqd cellsEq_ii, readC, allOne, fillL, resE, tupled, ↓reduceIte, Nat.reduceEqDiff, Int.reduceEq, Int.reduceLT, Int.reduceLE, Nat.reduceAdd, Nat.reduceMul, Nat.reduceLT, Nat.reduceLeDiff, reduceCtorEq, E1, E3, E7, hH0, mn, hok]
        exact purify_row (fun _ => rfl) ho2 (fun hl s' n' c' e => by cases e; exact htk rfl)
      | cons x r =>
        simp only [List.length_cons] at hl3
        have p1 := fun H => ptr_px pre2 x r rest u1 H (by rw [← b1]; omega) hc f1
        rw [← b1] at p1
        simp only [row] at p1
        by_cases hx : x.2 = 0
        · simp (disch := omega) only [wk, avalE, aactE, evPE, boundE, asNat, bv_seql cellsEq_ii, bv_sneqd cellsEq_ii, readC, allOne, fillL, resE, tupled, ↓reduceIte, Nat.reduceEqDiff, Int.reduceEq, Int.reduceLT, Int.reduceLE, Nat.reduceAdd, Nat.reduceMul, Nat.reduceLT, Nat.reduceLeDiff, reduceCtorEq, E1, E3, E7, hH0, mn, p1, hx, must_t]
          refine ih (pre2 ++ [x], r) _ _ _ (by simp) ?_
          exact ⟨by simp [b1], by rw [b2]; simp [zeroL, hx], by simp only [en, ↓reduceIte, Nat.reduceEqDiff, E1], by simp only [en, ↓reduceIte, Nat.reduceEqDiff, E3], by simp only [en, ↓reduceIte, Nat.reduceEqDiff], rfl, rfl⟩
        · have hno : ¬ okL left ps := fun h => by
            have := b2.1 (by rw [← hlr]; exact h.2.2.2.2)
            exact hx (this x (List.mem_cons_self ..))
          simp (disch := omega) only [wk, avalE, aactE, evPE, boundE, asNat, bv_seql cellsEq_ii, bv_sneqd cellsEq_ii, readC, allOne, fillL, resE, tupled, ↓reduceIte, Nat.reduceEqDiff, Int.reduceEq, Int.reduceLT, Int.reduceLE, Nat.reduceAdd, Nat.reduceMul, Nat.reduceLT, Nat.reduceLeDiff, reduceCtorEq, E1, E3, E7, hH0, mn, p1, hx, must_f, hno]
          exact purify_pan rfl
    | cons x r =>
      simp only [List.length_cons] at hl0
      obtain rfl := hz (by rw [a1]; simp)
      have f1 : ∀ o : AObj, (H2 ++ [o])[H2.length]? = some o := fun o => by simp
      have f2 : ∀ o o' : AObj, ((H2 ++ [o]).set H2.length o')[H2.length]? = some o' := fun o o' => by simp
      have f3 : ∀ o o' : AObj, ((H2 ++ [o]).set H2.length o')[H1.length]? = H2[H1.length]? := fun o o' => by
        rw [set_ne (by omega), List.getElem?_append_left hl2]
      have dd : List.drop (pre.length * 2) (encs pairA (rdL left ps)) = pairA x ++ encs pairA r := by rw [a1, drop_pre, encs_cons]
      simp only [pairA] at dd
      by_cases hin : x.2 ∈ left :: pre.map (·.2)
      · have : ¬ okL left ps := fun h => by
          have := a2.1 h.2.1
          exact this.1 hin
        obtain ⟨j, hj⟩ := findA_seen_in x.2 _ 0 hin
        simp (disch := omega) only [wk, avalE, aactE, evPE, boundE, asNat, bv_seql cellsEq_ii, bv_sneqd cellsEq_ii, readC, allOne, fillL, resE, tupled, ↓reduceIte, Nat.reduceEqDiff, Int.reduceEq, Int.reduceLT, Int.reduceLE, Nat.reduceAdd, Nat.reduceMul, Nat.reduceLT, Nat.reduceLeDiff, reduceCtorEq, E1, E3, E4, E23, E24, E25, dd, f1, f2, f3, hHm, hj, cellEq, must_f, this]
        exact purify_pan rfl
      · have hj := findA_seen x.2 _ 0 hin
        simp (disch := omega) only [wk, avalE, aactE, evPE, boundE, asNat, bv_seql cellsEq_ii, bv_sneqd cellsEq_ii, readC, allOne, fillL, resE, tupled, ↓reduceIte, Nat.reduceEqDiff, Int.reduceEq, Int.reduceLT, Int.reduceLE, Nat.reduceAdd, Nat.reduceMul, Nat.reduceLT, Nat.reduceLeDiff, reduceCtorEq, E1, E3, E4, E23, E24, E25, dd, f1, f2, f3, hHm, hj, cellEq, must_t]
        refine ih (pre ++ [x], r) _ _ _ (by simp) ?_
        have g1 : ∀ (o o' : AObj), ((H2 ++ [o]).set H2.length o')[0]? = H2[0]? := fun o o' => by
          rw [set_ne (by omega), List.getElem?_append_left (by omega)]
        have hm2 := fun (o o' : AObj) => f3 o o'
        rw [hHm] at hm2
        refine ⟨by simp [a1], ?_, by simp only [en, ↓reduceIte, Nat.reduceEqDiff, E1], by simp only [en, ↓reduceIte, Nat.reduceEqDiff, E3], by simp only [en, ↓reduceIte, Nat.reduceEqDiff, E4], by simp only [en, ↓reduceIte, Nat.reduceEqDiff, E23], by simp only [en, ↓reduceIte, Nat.reduceEqDiff, E24], by simp only [en, ↓reduceIte, Nat.reduceEqDiff], rfl, ?_, ?_, ?_, ?_⟩
        · rw [a2]; simp only [distL, hin, not_false_eq_true, true_and, List.map_append, List.map_cons, List.map_nil, List.cons_append]
        · rw [set_ne (by have := (List.getElem?_eq_some_iff.1 h0).1; omega), g1, hH0, h0]
        · rw [set_eq (hm2 _ _)]
          simp [seenE]
        · have b1 := (ho2.kept (g := none) (H' := H2 ++ [AObj.cells [.int .u64 0, .int .u64 0]]) (fun i q hq _ => by rw [List.getElem?_append_left (List.getElem?_eq_some_iff.1 hq).1]; exact hq) (.inl rfl)).set (q := .cells [.int .u64 x.1, .int .u64 x.2]) (f1 _) (by intro s e; cases e)
          exact b1.set (hm2 _ _) (by intro s e; cases e)
        · simp; omega
  split at main
  · rename_i h
    rw [if_pos h]
    exact pcx_Lrow (H := H) rfl (by rw [List.map_cons, List.map_nil, lendK_rowV]) main (scal_pairA _)
  · rename_i h
    rw [if_neg h]
    exact pcx_Lp (H := H) rfl (by rw [List.map_cons, List.map_nil, lendK_rowV]) main rfl
end Go.Proofs.Ytailfegmnkldoaa
