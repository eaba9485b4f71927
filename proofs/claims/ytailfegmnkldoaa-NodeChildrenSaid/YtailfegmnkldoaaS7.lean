/- THE WALKS OF comes, put AND Swap. No condition but those stated. -/
import Derived.Test.YtailfegmnkldoaaS6
set_option linter.unusedSimpArgs false
set_option linter.unusedVariables false
set_option linter.unusedSectionVars false
namespace Go.Proofs.Ytailfegmnkldoaa
open Go Go.Am Go.Slots
set_option maxHeartbeats 2000000
set_option maxRecDepth 10000
theorem l82 : (cbL tab).lent 92 = false := rfl
theorem cn82 (s n id : Nat) (cs : List AV) (tk : Tk) (H : Heap) : pcx (cbL tab) 92 [.sl s n cs tk, .fn 175 [.ptr id 0]] H = none :=
  pcx_none rfl (pc_none (fi := c92) rfl (by simp [pcOn, c92, hfL, lend, unown, AV.hf]))
theorem comes_no (n : Nat) (cs : List AV) (tk : Tk) (left : Int) (p : Int × Int) (H : Heap) (hn : (n : Int) ≤ 9223372036854775807) (hc : hfL cs = true) (hr : ¬ (right left n ∧ p.2 ≠ 0 ∧ p.2 ≠ left)) :
    pcx (cbL tab) 144 [rowV n cs tk left, .agg (pairA p)] H = some (.pan [(.iface 25 (.int .i64 2), false)]) := by
  obtain ⟨u1, e1, f1⟩ := lend_rowV n cs tk left
  obtain ⟨p1, p2⟩ := p
  have ep : lend (.agg (pairA (p1, p2))) = .agg (pairA (p1, p2)) := rfl
  refine pcx_N rfl (pc_wp (fi := c144) rfl ?_ (by simp [c144]) (by decide) ?_)
  · simp only [pcOn, List.map_cons, List.map_nil, hfL, hf_lend_sl, hf_lend_int, hf_lend_bool, hf_lend_str, hfL_append, Bool.and_self, Bool.and_true, Bool.true_and, c144, hf_lend_rowV, hc, ep]; rfl
  unfold c144
  rw [List.map_cons, List.map_cons, List.map_nil, e1, ep, rowV]
  have r1 := fun H => slotsright_px left n cs u1 H hn hc f1
  rw [rowV] at r1
  by_cases h1 : right left n
  case neg =>
    simp (disch := omega) only [wk, avalE, aactE, evPE, boundE, asNat, bv_seql cellsEq_ii, bv_sneqd cellsEq_ii, readC, allOne, fillL, resE, tupled, ↓reduceIte, Nat.reduceEqDiff, Int.reduceEq, Int.reduceLT, Int.reduceLE, Nat.reduceAdd, Nat.reduceMul, Nat.reduceLT, Nat.reduceLeDiff, reduceCtorEq, pairA, r1, h1, must_f]
    exact purify_pan rfl
  by_cases h2 : p2 = 0
  · subst h2
    simp (disch := omega) only [wk, avalE, aactE, evPE, boundE, asNat, bv_seql cellsEq_ii, bv_sneqd cellsEq_ii, readC, allOne, fillL, resE, tupled, ↓reduceIte, Nat.reduceEqDiff, Int.reduceEq, Int.reduceLT, Int.reduceLE, Nat.reduceAdd, Nat.reduceMul, Nat.reduceLT, Nat.reduceLeDiff, reduceCtorEq, pairA, r1, h1, must_f]
    exact purify_pan rfl
  have h3 : p2 = left := by
    apply Classical.byContradiction
    intro h3
    exact hr ⟨h1, h2, h3⟩
  subst h3
  simp (disch := omega) only [wk, avalE, aactE, evPE, boundE, asNat, bv_seql cellsEq_ii, bv_sneqd cellsEq_ii, readC, allOne, fillL, resE, tupled, ↓reduceIte, Nat.reduceEqDiff, Int.reduceEq, Int.reduceLT, Int.reduceLE, Nat.reduceAdd, Nat.reduceMul, Nat.reduceLT, Nat.reduceLeDiff, reduceCtorEq, pairA, r1, h1, h2, must_f]
  exact purify_pan rfl
/-- What comes tells. -/
def comesR (left : Int) (ps : List (Int × Int)) (p : Int × Int) : PR :=
  if okL left ps then (if hasL (rdL left ps) p.2 then .pan [(.iface 25 (.int .i64 2), false)] else
    .plain (.tup [slvR 2 pairA (rdL left ps), .int .i64 (findL' p.1 (rdL left ps) : Nat), .bool (decide (keyAtI (rdL left ps) (findL' p.1 (rdL left ps)) p.1))]))
  else .pan [(.iface 25 (.int .i64 190), false)]
theorem comes_yes (ps : List (Int × Int)) (rest : List AV) (tk : Tk) (left : Int) (p : Int × Int) (H : Heap) (hc : hfL rest = true) (hr : right left (2 * ps.length)) (hp : p.2 ≠ 0) (hp2 : p.2 ≠ left) :
    pcx (cbL tab) 144 [rowV (2 * ps.length) (encs pairA ps ++ rest) tk left, .agg (pairA p)] H = some (comesR left ps p) := by
  obtain ⟨u1, e1, f1⟩ := lend_rowV (2 * ps.length) (encs pairA ps ++ rest) tk left
  obtain ⟨p1, p2⟩ := p
  have hcs : hfL (encs pairA ps ++ rest) = true := by rw [hfL_append, hf_pairA, hc]; rfl
  have ep : lend (.agg (pairA (p1, p2))) = .agg (pairA (p1, p2)) := rfl
  have hn := hr.2.2.2
  have hlen := rdL_le left ps
  refine pcx_N rfl (pc_wp (fi := c144) rfl ?_ (by simp [c144]) (by decide) ?_)
  · simp only [pcOn, List.map_cons, List.map_nil, hfL, hf_lend_sl, hf_lend_int, hf_lend_bool, hf_lend_str, hfL_append, Bool.and_self, Bool.and_true, Bool.true_and, c144, hf_lend_rowV, hcs, ep]; rfl
  unfold c144
  rw [List.map_cons, List.map_cons, List.map_nil, e1, ep, rowV]
  have r1 := fun H => slotsright_px left (2 * ps.length) (encs pairA ps ++ rest) u1 H (by omega) hcs f1
  have s1 := fun H => settled_yes ps rest u1 left H hc f1 hr
  rw [rowV] at r1 s1
  by_cases hok : okL left ps
  case neg =>
    simp only [hok, if_false] at s1
    simp only [comesR, hok, if_false]
    simp (disch := omega) only [wk, avalE, aactE, evPE, boundE, asNat, bv_seql cellsEq_ii, bv_sneqd cellsEq_ii, readC, allOne, fillL, resE, tupled, ↓reduceIte, Nat.reduceEqDiff, Int.reduceEq, Int.reduceLT, Int.reduceLE, Nat.reduceAdd, Nat.reduceMul, Nat.reduceLT, Nat.reduceLeDiff, reduceCtorEq, pairA, r1, hr, hp, hp2, must_t, s1]
    exact purify_pan rfl
  simp only [hok, if_true] at s1
  simp (disch := omega) only [wk, avalE, aactE, evPE, boundE, asNat, bv_seql cellsEq_ii, bv_sneqd cellsEq_ii, readC, allOne, fillL, resE, tupled, ↓reduceIte, Nat.reduceEqDiff, Int.reduceEq, Int.reduceLT, Int.reduceLE, Nat.reduceAdd, Nat.reduceMul, Nat.reduceLT, Nat.reduceLeDiff, reduceCtorEq, pairA, r1, hr, hp, hp2, must_t, s1]
  refine runE_row (fun s tk' H1 hz ho htk hup hle => ?_)
  have h1 := hup 1 _ rfl
  obtain ⟨H2, k1, k2, k3⟩ := contains_ic (rdL left ps) s tk' 1 p1 p2 H1 (by omega) hz h1
  have cc := fun H => cn82 s (rdL left ps).length 1 (encs pairA (rdL left ps)) tk' H
  have h2 := k2 _ _ h1
  have pl := fun H => place_px (rdL left ps) s tk' p1 H (by omega) hz hok.1
  by_cases hhas : hasL (rdL left ps) p2
  · simp only [comesR, hok, hhas, if_true]
    simp (disch := omega) only [wk, avalE, aactE, evPE, boundE, asNat, bv_seql cellsEq_ii, bv_sneqd cellsEq_ii, readC, allOne, fillL, resE, tupled, ↓reduceIte, Nat.reduceEqDiff, Int.reduceEq, Int.reduceLT, Int.reduceLE, Nat.reduceAdd, Nat.reduceMul, Nat.reduceLT, Nat.reduceLeDiff, reduceCtorEq, cc, runE_none l82, k1, hhas, must_f]
    exact purify_pan rfl
  · simp only [comesR, hok, hhas, if_true, if_false]
    simp (disch := omega) only [wk, avalE, aactE, evPE, boundE, asNat, bv_seql cellsEq_ii, bv_sneqd cellsEq_ii, readC, allOne, fillL, resE, tupled, ↓reduceIte, Nat.reduceEqDiff, Int.reduceEq, Int.reduceLT, Int.reduceLE, Nat.reduceAdd, Nat.reduceMul, Nat.reduceLT, Nat.reduceLeDiff, reduceCtorEq, cc, runE_none l82, k1, hhas, must_t, h2, pl]
    have := own_lend ho (fun s n c e => by cases e; exact htk rfl)
    have u1 : ∀ k n, lend (.int k n) = .int k n := fun _ _ => rfl
    have u2 : ∀ b, lend (.bool b) = .bool b := fun _ => rfl
    rw [purify_tup (own_sl ho)]
    simp only [List.map_cons, List.map_nil, this, u1, u2, AV.hf, hfL, slvR_hf (f := pairA) (fun _ => rfl), Bool.and_self, if_true]
end Go.Proofs.Ytailfegmnkldoaa
