/- THE WALK OF Under. No condition but those stated. -/
import Derived.Test.YtmogflndepihnaaDoorK10
set_option linter.unusedSimpArgs false
set_option linter.unusedVariables false
set_option linter.unusedSectionVars false
namespace Go.Proofs.YtmogflndepihnaaDoor
open Go Go.Am Go.Rec Go.Nam
set_option maxHeartbeats 4000000
set_option maxRecDepth 10000
def unAs : ACode := .seq (.region [⟨some 11, .mv (.t 33), none⟩]) (.region [⟨some 12, .mv (.t 34), none⟩])
def unBd : ACode := (.block 2 (.seq (.region [⟨(.some 35), (.mv (.t 11)), .none⟩, ⟨(.some 36), (.load 1 false (.t 6)), .none⟩, ⟨(.some 37), (.len 0 (.t 36)), .none⟩, ⟨(.some 38), (.bin .lss .num (.t 35) (.t 37)), .none⟩, ⟨(.some 39), (.mv (.t 38)), .none⟩, ⟨(.some 40), (.load 1 false (.t 6)), (.some (39, true))⟩, ⟨(.some 41), (.mv (.t 11)), (.some (39, true))⟩, ⟨(.some 42), (.ixa 1 (.t 40) (.t 41)), (.some (39, true))⟩, ⟨(.some 43), (.load 1 false (.t 42)), (.some (39, true))⟩, ⟨(.some 44), (.mv (.t 12)), (.some (39, true))⟩, ⟨(.some 45), (.bin .eql .str (.t 43) (.t 44)), (.some (39, true))⟩, ⟨(.some 46), (.pick (.t 39) (.t 45) (.c (.bool false))), .none⟩]) (.cond (.t 46) (.region [⟨(.some 47), (.load 1 false (.t 10)), .none⟩, ⟨(.some 48), (.bin .add .num (.t 47) (.c (.int .i64 1))), .none⟩, ⟨.none, (.store 1 (.t 10) (.t 48)), .none⟩]) .skip)))
def unStp (a : List (List UInt8)) (q j : Nat) (x : List UInt8) : Nat × Bool := (if a[j]? = some x then q + 1 else q, true)
def UnR (sa : Nat) (ta : Tk) (a : List (List UInt8)) (vd : AV) (tm : List AV) (j q : Nat) (H : Heap) : Prop :=
  q ≤ j ∧ H = [.cells [.sl sa a.length (encs strA a) ta], .cells [.int .i64 (q : Nat)], .cells [vd], .defd, .loop 0 .normal tm [33, 34] unAs unBd]
theorem un_round {sa : Nat} {ta : Tk} {a : List (List UInt8)} {vd : AV} {E : Env} {tm : List AV} (ha : Ag 53 tm E) (hs : a ≠ [] → sa = 1) (E6 : E 6 = .ptr 0 0) (E10 : E 10 = .ptr 1 0) (q : Nat) (H : Heap) (j : Nat) (x : List UInt8) (hj : j ≤ 10000)
    (hR : UnR sa ta a vd tm j q H) : ∃ H', (cbL tab).yl 4 [.int .i64 (j : Nat), .str (bs x)] H = some (.ret (.bool (unStp a q j x).2), H') ∧ UnR sa ta a vd tm (j + 1) (unStp a q j x).1 H' := by
  obtain ⟨hq, rfl⟩ := hR
  have key := yl_wp (tab := tab) (id := 4) (P := fun b H' => b = true ∧ UnR sa ta a vd tm (j + 1) (unStp a q j x).1 H')
    (args := [.int .i64 (j : Nat), .str (bs x)]) (H := [.cells [.sl sa a.length (encs strA a) ta], .cells [.int .i64 (q : Nat)], .cells [vd], .defd, .loop 0 .normal tm [33, 34] unAs unBd]) (readLoop_of rfl) ha rfl (by decide) (by decide) (by decide) (by decide) (by decide) ?_
  · obtain ⟨b, H', k1, rfl, k2⟩ := key
    exact ⟨H', k1, k2⟩
  unfold unAs
  simp (disch := omega) only [wk, avalE, aactE, evPE, boundE, asNat, bv_seql cellsEq_ii, bv_sneqd cellsEq_ii, readC, allOne, fillL, resE, tupled, ↓reduceIte, Nat.reduceEqDiff, Int.reduceEq, Int.reduceLT, Int.reduceLE, Nat.reduceAdd, Nat.reduceMul, Nat.reduceLT, Nat.reduceLeDiff, reduceCtorEq, updPs_cons, updPs_nil]
  refine ⟨rfl, rfl, _, _, _, _, _, readLoop_of rfl, ?_⟩
  unfold unBd UnR unStp
  by_cases hlt : j < a.length
  · have n1 : (j : Int) < (a.length : Int) := by omega
    have hx := List.getElem?_eq_getElem hlt
    obtain ⟨y, hy⟩ : ∃ y, y = a[j] := ⟨_, rfl⟩
    rw [← hy] at hx
    have hs1 := hs (by intro e; subst e; simp at hlt)
    subst hs1
    have d1 : List.drop j (encs strA a) = .str (bs y) :: encs strA (a.drop (j + 1)) := by
      have := encs_drop (f := strA) a j
      rw [Nat.mul_one] at this
      rw [this, List.drop_eq_getElem_cons hlt, ← hy]; rfl
    cases hxy : (y == x) with
    | true =>
      have : y = x := eq_of_beq hxy
      subst this
      simp (disch := omega) only [wk, avalE, aactE, evPE, boundE, asNat, bv_seql cellsEq_ii, bv_sneqd cellsEq_ii, readC, allOne, fillL, resE, tupled, ↓reduceIte, Nat.reduceEqDiff, Int.reduceEq, Int.reduceLT, Int.reduceLE, Nat.reduceAdd, Nat.reduceMul, Nat.reduceLT, Nat.reduceLeDiff, reduceCtorEq, E6, E10, n1, d1, bv_streq, bs_toList, hxy, hx]
      exact ⟨rfl, _, _, _, _, _, _, readLoop_of rfl, rfl, by omega, rfl⟩
    | false =>
      have hne : ¬ (a[j]? = some x) := by rw [hx]; intro e; cases e; rw [beq_self_eq_true] at hxy; cases hxy
      simp (disch := omega) only [wk, avalE, aactE, evPE, boundE, asNat, bv_seql cellsEq_ii, bv_sneqd cellsEq_ii, readC, allOne, fillL, resE, tupled, ↓reduceIte, Nat.reduceEqDiff, Int.reduceEq, Int.reduceLT, Int.reduceLE, Nat.reduceAdd, Nat.reduceMul, Nat.reduceLT, Nat.reduceLeDiff, reduceCtorEq, E6, E10, n1, d1, bv_streq, bs_toList, hxy, hne]
      exact ⟨rfl, _, _, _, _, _, _, readLoop_of rfl, rfl, by omega, rfl⟩
  · have n1 : ¬ (j : Int) < (a.length : Int) := by omega
    have hne : ¬ (a[j]? = some x) := by rw [List.getElem?_eq_none (by omega)]; intro e; cases e
    simp (disch := omega) only [wk, avalE, aactE, evPE, boundE, asNat, bv_seql cellsEq_ii, bv_sneqd cellsEq_ii, readC, allOne, fillL, resE, tupled, ↓reduceIte, Nat.reduceEqDiff, Int.reduceEq, Int.reduceLT, Int.reduceLE, Nat.reduceAdd, Nat.reduceMul, Nat.reduceLT, Nat.reduceLeDiff, reduceCtorEq, E6, E10, n1, hne]
    exact ⟨rfl, _, _, _, _, _, _, readLoop_of rfl, rfl, by omega, rfl⟩
theorem run_under (a : List (List UInt8)) : ∀ (b : List (List UInt8)) (q j : Nat), runJ (unStp a) q j b ≤ q + b.length ∧ (runJ (unStp a) q j b = q + b.length ↔ (a.drop j).take b.length = b)
  | [], q, j => by simp [runJ]
  | x :: r, q, j => by
    have hu : runJ (unStp a) q j (x :: r) = runJ (unStp a) (unStp a q j x).1 (j + 1) r := by rw [runJ, if_pos (show (unStp a q j x).2 = true from rfl)]
    rw [hu]
    by_cases h : a[j]? = some x
    · have e : (unStp a q j x).1 = q + 1 := if_pos h
      rw [e]
      obtain ⟨k1, k2⟩ := run_under a r (q + 1) (j + 1)
      obtain ⟨hlt, hx⟩ := List.getElem?_eq_some_iff.1 h
      rw [List.drop_eq_getElem_cons hlt, List.length_cons, List.take_succ_cons, hx]
      refine ⟨by omega, ?_⟩
      have : q + (r.length + 1) = q + 1 + r.length := by omega
      rw [this, k2]
      simp
    · have e : (unStp a q j x).1 = q := if_neg h
      rw [e]
      obtain ⟨k1, k2⟩ := run_under a r q (j + 1)
      refine ⟨by simp only [List.length_cons]; omega, ?_⟩
      constructor
      · intro h2; simp only [List.length_cons] at h2; omega
      · intro h2
        exfalso
        apply h
        have h3 := congrArg (fun l : List (List UInt8) => l[0]?) h2
        simpa [List.getElem?_take, List.getElem?_drop] using h3
theorem under_px (p d : List UInt8) (hp : p.length ≤ 5000) (hd : d.length ≤ 5000) (H : Heap) : pcx (cbL tab) 29 [.str (bs p), .str (bs d)] H = some (.plain (underV p d)) := by
  refine pcx_N rfl (pc_wp (fi := c29) rfl rfl (by simp [c29]) (by decide) ?_)
  unfold c29
  rw [List.map_cons, List.map_cons, List.map_nil, lend_str, lend_str]
  have pp := fun H => parts_px p hp H
  have pd := fun H => parts_px d hd H
  unfold partsV at pp pd
  have bp := partsM_small p
  have bd := partsM_small d
  obtain ⟨s1, t1, k1, k2, k3⟩ := rowV_form p
  obtain ⟨s2, t2, m1, m2, m3⟩ := rowV_form d
  have ei := fun H => each_ic d hd H
  rw [k1] at pp
  rw [m1] at pd
  unfold underV
  by_cases ep : partsE p = 0
  case neg =>
    have e0 : (partsE p == 0) = false := by simpa using ep
    rw [if_neg ep, e0, Bool.false_and, Bool.false_and]
    simp (disch := omega) only [wk, avalE, aactE, evPE, boundE, asNat, bv_seql cellsEq_ii, bv_sneqd cellsEq_ii, readC, allOne, fillL, resE, tupled, ↓reduceIte, Nat.reduceEqDiff, Int.reduceEq, Int.reduceLT, Int.reduceLE, Nat.reduceAdd, Nat.reduceMul, Nat.reduceLT, Nat.reduceLeDiff, reduceCtorEq, pp, pd, ep, purify, unownT, unown, AV.hf, hfL]
  by_cases ed : partsE d = 0
  case neg =>
    have e1 : (partsE d == 0) = false := by simpa using ed
    have e0 : (partsE p == 0) = true := by rw [ep]; rfl
    rw [if_pos ep, e0, e1, Bool.true_and, Bool.false_and]
    simp (disch := omega) only [wk, avalE, aactE, evPE, boundE, asNat, bv_seql cellsEq_ii, bv_sneqd cellsEq_ii, readC, allOne, fillL, resE, tupled, ↓reduceIte, Nat.reduceEqDiff, Int.reduceEq, Int.reduceLT, Int.reduceLE, Nat.reduceAdd, Nat.reduceMul, Nat.reduceLT, Nat.reduceLeDiff, reduceCtorEq, pp, pd, ep, ed, purify, unownT, unown, AV.hf, hfL]
  have e0 : (partsE p == 0) = true := by rw [ep]; rfl
  have e1 : (partsE d == 0) = true := by rw [ed]; rfl
  rw [if_pos ep, e0, e1, Bool.true_and, Bool.true_and, ed]
  have ca : partsM p = cutP p := if_pos ep
  have cb' : partsM d = cutP d := if_pos ed
  rw [ca] at pp bp k2
  rw [cb'] at pd bd m2 m1
  rw [ep] at pp
  rw [ed] at pd
  generalize cutP p = a at *
  generalize cutP d = b at *
  rw [m1] at ei
  simp (disch := omega) only [wk, avalE, aactE, evPE, boundE, asNat, bv_seql cellsEq_ii, bv_sneqd cellsEq_ii, readC, allOne, fillL, resE, tupled, ↓reduceIte, Nat.reduceEqDiff, Int.reduceEq, Int.reduceLT, Int.reduceLE, Nat.reduceAdd, Nat.reduceMul, Nat.reduceLT, Nat.reduceLeDiff, reduceCtorEq, pp, pd, (ei _).1, (ei _).2, runE_none leach]
  refine ret_range (f := 61) (caps := [.ptr 2 0]) (by simp only [en, ↓reduceIte, Nat.reduceEqDiff, evE_t]) (fun tm ha => ?_)
  obtain ⟨o, H2, q1, rfl, j, hj, q2⟩ := each1_ic (fun j q H => j ≤ b.length ∧ UnR s1 t1 a (.sl s2 b.length (encs strA b) t2) tm j q H) (unStp a) 4 2 b (by omega) s2 t2 m2
    (fun q H j x hx hR => by
      have hjl := (List.getElem?_eq_some_iff.1 hx).1
      obtain ⟨H', y1, y2⟩ := un_round ha k2 (by simp only [en, ↓reduceIte, Nat.reduceEqDiff]) (by simp only [en, ↓reduceIte, Nat.reduceEqDiff]) q H j x (by omega) hR.2
      exact ⟨H', y1, by omega, y2⟩)
    0 [.cells [.sl s1 a.length (encs strA a) t1], .cells [.int .i64 0], .cells [.sl s2 b.length (encs strA b) t2], .defd, .loop 0 .normal tm [33, 34] unAs unBd] ⟨Nat.zero_le _, Nat.le_refl _, rfl⟩ rfl
  obtain ⟨hjb, hqj, hH⟩ := q2
  obtain ⟨r1, r2⟩ := run_under a b 0 0
  rw [List.drop_zero, Nat.zero_add] at r2
  generalize runJ (unStp a) 0 0 b = q at *
  subst hH
  refine ⟨_, _, _, _, _, _, _, _, q1, readLoop_of rfl, by decide, rfl, ?_⟩
  have hu : underB a b = decide ((q : Int) = (b.length : Int)) := by
    unfold underB
    by_cases h : List.take b.length a = b
    · rw [decide_eq_true h, decide_eq_true (by have := r2.2 h; omega)]
    · rw [decide_eq_false h, decide_eq_false (fun e => h (r2.1 (by omega)))]
  rw [hu]
  simp (disch := omega) only [wk, avalE, aactE, evPE, boundE, asNat, bv_seql cellsEq_ii, bv_sneqd cellsEq_ii, readC, allOne, fillL, resE, tupled, ↓reduceIte, Nat.reduceEqDiff, Int.reduceEq, Int.reduceLT, Int.reduceLE, Nat.reduceAdd, Nat.reduceMul, Nat.reduceLT, Nat.reduceLeDiff, reduceCtorEq, List.append_nil]
  rw [ends_mark rfl]
  simp (disch := omega) only [wk, avalE, aactE, evPE, boundE, asNat, bv_seql cellsEq_ii, bv_sneqd cellsEq_ii, readC, allOne, fillL, resE, tupled, ↓reduceIte, Nat.reduceEqDiff, Int.reduceEq, Int.reduceLT, Int.reduceLE, Nat.reduceAdd, Nat.reduceMul, Nat.reduceLT, Nat.reduceLeDiff, reduceCtorEq, purify, unownT, unown, AV.hf, hfL]
end Go.Proofs.YtmogflndepihnaaDoor
