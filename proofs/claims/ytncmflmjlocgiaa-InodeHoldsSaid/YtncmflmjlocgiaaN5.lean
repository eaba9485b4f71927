/- THE WALKS OF right AND Check. No condition but those stated. -/
import Derived.Test.YtncmflmjlocgiaaN4
set_option linter.unusedSimpArgs false
set_option linter.unusedVariables false
set_option linter.unusedSectionVars false
namespace Go.Proofs.Ytncmflmjlocgiaa
open Go Go.Am Go.Rec Go.Ino
set_option maxHeartbeats 4000000
set_option maxRecDepth 10000
def kindA (k : Int) : AV :=
  if k = 1 then .agg [.fn 103 [], .fn 104 [], .fn 107 [], .fn 110 []]
  else if k = 2 then .agg [.fn 113 [], .fn 114 [], .fn 115 [], .fn 116 []]
  else if k = 3 then .agg [.fn 117 [], .fn 118 [], .fn 120 [], .fn 121 []]
  else .agg [.fn 99 [], .fn 100 [], .fn 101 [], .fn 102 []]
theorem kindA_0 : kindA 0 = .agg [.fn 99 [], .fn 100 [], .fn 101 [], .fn 102 []] := rfl
theorem kindA_1 : kindA 1 = .agg [.fn 103 [], .fn 104 [], .fn 107 [], .fn 110 []] := rfl
theorem kindA_2 : kindA 2 = .agg [.fn 113 [], .fn 114 [], .fn 115 [], .fn 116 []] := rfl
theorem kindA_3 : kindA 3 = .agg [.fn 117 [], .fn 118 [], .fn 120 [], .fn 121 []] := rfl
def pan240 : PR := .pan [(.iface 26 (.int .i64 240), false)]
def rightR (n : Ino) : PR := if okI n then .plain (kindA n.kind) else pan240
theorem rightR_ok {n : Ino} (h : okI n) : rightR n = .plain (kindA n.kind) := if_pos h
theorem rightR_no {n : Ino} (h : ¬ okI n) : rightR n = pan240 := if_neg h
theorem find0 : findA 0 (.int .i64 0) kindsE 0 = some (some (0, kindA 0)) := rfl
theorem find1 : findA 0 (.int .i64 1) kindsE 0 = some (some (1, kindA 1)) := rfl
theorem find2 : findA 0 (.int .i64 2) kindsE 0 = some (some (2, kindA 2)) := rfl
theorem find3 : findA 0 (.int .i64 3) kindsE 0 = some (some (3, kindA 3)) := rfl
theorem find_no {k : Int} (h0 : k ≠ 0) (h1 : k ≠ 1) (h2 : k ≠ 2) (h3 : k ≠ 3) : findA 0 (.int .i64 k) kindsE 0 = some none := by
  have b0 : (k == 0) = false := by simp [h0]
  have b1 : (k == 1) = false := by simp [h1]
  have b2 : (k == 2) = false := by simp [h2]
  have b3 : (k == 3) = false := by simp [h3]
  simp [findA, kindsE, cellEq, b0, b1, b2, b3]
theorem ba_empty (s : ByteArray) : (⟨#[]⟩ : ByteArray) = s ↔ s.toList = [] := by
  constructor
  · rintro rfl
    exact k0
  · intro h
    have h1 := ba_eq ⟨#[]⟩ s
    rw [show (⟨#[]⟩ : ByteArray).toList = [] from k0, h] at h1
    simpa using h1.symm
theorem same_0 (n : Ino) (h : n.kind = 0) : sameB ⟨0, 0, 0, [], 0, 0, ⟨#[]⟩⟩ n = decide (zB n false false false = true ∧ n.links = 0) := by
  unfold sameB zB
  simp only [h, decide_eq_true_eq, Bool.false_eq_true, false_or, List.length_eq_zero_iff, decide_eq_decide, ba_empty]
  constructor
  · rintro ⟨_, a, b, c, d, e, f⟩
    exact ⟨⟨⟨b.symm, c.symm⟩, ⟨d.symm, e.symm⟩, f⟩, a.symm⟩
  · rintro ⟨⟨⟨b, c⟩, ⟨d, e⟩, f⟩, a⟩
    exact ⟨trivial, a.symm, b.symm, c.symm, d.symm, e.symm, f⟩
theorem same_1 (n : Ino) (h : n.kind = 1) : sameB ⟨1, n.links, n.size, n.map, 0, 0, ⟨#[]⟩⟩ n = zB n true false false := by
  unfold sameB zB
  simp only [h, Bool.false_eq_true, false_or, true_or, true_and, decide_eq_decide, ba_empty]
  constructor
  · rintro ⟨d, e, f⟩
    exact ⟨⟨d.symm, e.symm⟩, f⟩
  · rintro ⟨⟨d, e⟩, f⟩
    exact ⟨d.symm, e.symm, f⟩
theorem same_2 (n : Ino) (h : n.kind = 2) : sameB ⟨2, n.links, 0, [], n.root, n.parent, ⟨#[]⟩⟩ n = zB n false true false := by
  unfold sameB zB
  simp only [h, Bool.false_eq_true, false_or, true_or, true_and, decide_eq_decide, ba_empty, List.length_eq_zero_iff]
  constructor
  · rintro ⟨b, c, f⟩
    exact ⟨⟨b.symm, c.symm⟩, f⟩
  · rintro ⟨⟨b, c⟩, f⟩
    exact ⟨b.symm, c.symm, f⟩
theorem same_3 (n : Ino) (h : n.kind = 3) : sameB ⟨3, n.links, 0, [], 0, 0, n.target⟩ n = zB n false false true := by
  unfold sameB zB
  simp only [h, Bool.false_eq_true, false_or, true_or, true_and, and_true, decide_eq_decide, List.length_eq_zero_iff]
  constructor
  · rintro ⟨b, c, d, e⟩
    exact ⟨⟨b.symm, c.symm⟩, d.symm, e.symm⟩
  · rintro ⟨⟨b, c⟩, d, e⟩
    exact ⟨b.symm, c.symm, d.symm, e.symm⟩
theorem right_px (n : Ino) (m : AV) (hm : MapR m n.map) (hn : n.map.length ≤ 1000) (H : Heap) : pcx (cbL tab) 72 [inoA n m] H = some (rightR n) := by
  refine pcx_N rfl (pc_wp (fi := c72) rfl ?_ (by simp [c72]) (by decide) ?_)
  · simp only [pcOn, List.map_cons, List.map_nil, hfL, hf_lend_sl, hf_lend_int, hf_lend_bool, hf_lend_str, hfL_append, Bool.and_self, Bool.and_true, Bool.true_and, c72, lend_inoA hm, hf_inoA hm]
  unfold c72
  rw [List.map_cons, List.map_nil, lend_inoA hm]
  have m1 := hm.one.1
  have m2 := hm.one.2
  have mz1 : nilm'.flat = [nilm'] := rfl
  have mz2 : nilm'.one = true := rfl
  have kp := fun H => kinds_px H
  have il := fun H => ini_px n.links 0 65535 H
  have mt := fun H => must_t H
  have mf := fun H => must_f H
  have pp : ∀ H, purify (some (.pan [(.iface 26 (.int .i64 240), false)], H)) = some pan240 := fun H => rfl
  by_cases k0 : n.kind = 0
  · have ok := okI_0 k0
    have fd := find0
    have ka := kindA_0
    have sm := same_0 n k0
    have br := fun H => bare0_px n m hm H
    have my := fun H => may0_px n m hm H
    have sp := fun H => same_px' ⟨0, 0, 0, [], 0, 0, ⟨#[]⟩⟩ n nilm' m MapR.nil hm (by simp) hn H
    rw [sm] at sp
    simp only [inoA] at br my sp ⊢
    simp only [k0] at br my sp ⊢
    by_cases l1 : 0 ≤ n.links ∧ n.links ≤ 65535
    case neg =>
      have l1' : decide (0 ≤ n.links ∧ n.links ≤ 65535) = false := decide_eq_false l1
      have e := rightR_no (n := n) (fun h => l1 (ok.1 h).1)
      clear l1
      simp (disch := omega) only [wk, avalE, aactE, evPE, boundE, asNat, bv_seql cellsEq_ii, bv_sneqd cellsEq_ii, readC, allOne, fillL, resE, tupled, ↓reduceIte, Nat.reduceEqDiff, Int.reduceEq, Int.reduceLT, Int.reduceLE, Nat.reduceAdd, Nat.reduceMul, Nat.reduceLT, Nat.reduceLeDiff, reduceCtorEq, m1, m2, k0, kp, List.getElem?_nil, fd, cellEq_ii, ka, il, l1', mf, pp, e]
    have l1' : decide (0 ≤ n.links ∧ n.links ≤ 65535) = true := decide_eq_true l1
    by_cases hz : zB n false false false = true ∧ n.links = 0
    case neg =>
      have e := rightR_no (n := n) (fun h => hz (ok.1 h).2)
      rw [decide_eq_false hz] at sp
      clear l1 hz
      simp (disch := omega) only [wk, avalE, aactE, evPE, boundE, asNat, bv_seql cellsEq_ii, bv_sneqd cellsEq_ii, readC, allOne, fillL, resE, tupled, ↓reduceIte, Nat.reduceEqDiff, Int.reduceEq, Int.reduceLT, Int.reduceLE, Nat.reduceAdd, Nat.reduceMul, Nat.reduceLT, Nat.reduceLeDiff, reduceCtorEq, m1, m2, mz1, mz2, k0, kp, List.getElem?_nil, fd, cellEq_ii, ka, il, l1', mt, br, sp, mf, pp, e]
    have e := rightR_ok (n := n) (ok.2 ⟨l1, hz⟩)
    rw [k0] at e
    rw [decide_eq_true hz] at sp
    clear l1 hz
    simp (disch := omega) only [wk, avalE, aactE, evPE, boundE, asNat, bv_seql cellsEq_ii, bv_sneqd cellsEq_ii, readC, allOne, fillL, resE, tupled, ↓reduceIte, Nat.reduceEqDiff, Int.reduceEq, Int.reduceLT, Int.reduceLE, Nat.reduceAdd, Nat.reduceMul, Nat.reduceLT, Nat.reduceLeDiff, reduceCtorEq, m1, m2, mz1, mz2, k0, kp, List.getElem?_nil, fd, cellEq_ii, ka, il, l1', mt, br, sp, my, e, purify, unownT, AV.hf, hfL]
  by_cases k1 : n.kind = 1
  · have ok := okI_1 k1
    have fd := find1
    have ka := kindA_1
    have sm := same_1 n k1
    have br := fun H => bare1_px n m hm H
    have my := fun H => may1_px n m hm hn H
    have sp := fun H => same_px' ⟨1, n.links, n.size, n.map, 0, 0, ⟨#[]⟩⟩ n m m hm hm (by exact hn) hn H
    rw [sm] at sp
    simp only [inoA] at br my sp ⊢
    simp only [k1] at br my sp ⊢
    by_cases l1 : 0 ≤ n.links ∧ n.links ≤ 65535
    case neg =>
      have l1' : decide (0 ≤ n.links ∧ n.links ≤ 65535) = false := decide_eq_false l1
      have e := rightR_no (n := n) (fun h => l1 (ok.1 h).1)
      clear l1
      simp (disch := omega) only [wk, avalE, aactE, evPE, boundE, asNat, bv_seql cellsEq_ii, bv_sneqd cellsEq_ii, readC, allOne, fillL, resE, tupled, ↓reduceIte, Nat.reduceEqDiff, Int.reduceEq, Int.reduceLT, Int.reduceLE, Nat.reduceAdd, Nat.reduceMul, Nat.reduceLT, Nat.reduceLeDiff, reduceCtorEq, m1, m2, k1, kp, List.getElem?_nil, fd, cellEq_ii, ka, il, l1', mf, pp, e]
    have l1' : decide (0 ≤ n.links ∧ n.links ≤ 65535) = true := decide_eq_true l1
    cases hz : zB n true false false with
    | false =>
      have e := rightR_no (n := n) (fun h => by have := (ok.1 h).2.1; rw [hz] at this; cases this)
      rw [hz] at sp
      clear l1
      simp (disch := omega) only [wk, avalE, aactE, evPE, boundE, asNat, bv_seql cellsEq_ii, bv_sneqd cellsEq_ii, readC, allOne, fillL, resE, tupled, ↓reduceIte, Nat.reduceEqDiff, Int.reduceEq, Int.reduceLT, Int.reduceLE, Nat.reduceAdd, Nat.reduceMul, Nat.reduceLT, Nat.reduceLeDiff, reduceCtorEq, m1, m2, mz1, mz2, k1, kp, List.getElem?_nil, fd, cellEq_ii, ka, il, l1', mt, br, sp, mf, pp, e]
    | true =>
      rw [hz] at sp
      cases hy : (decide (0 ≤ n.size ∧ n.size ≤ 65536) && mapOk n.map n.size) with
      | false =>
        have e := rightR_no (n := n) (fun h => by
          obtain ⟨_, _, a, b, c⟩ := ok.1 h
          rw [c, Bool.and_true, decide_eq_true ⟨a, b⟩] at hy
          cases hy)
        rw [hy] at my
        clear l1 hy
        simp (disch := omega) only [wk, avalE, aactE, evPE, boundE, asNat, bv_seql cellsEq_ii, bv_sneqd cellsEq_ii, readC, allOne, fillL, resE, tupled, ↓reduceIte, Nat.reduceEqDiff, Int.reduceEq, Int.reduceLT, Int.reduceLE, Nat.reduceAdd, Nat.reduceMul, Nat.reduceLT, Nat.reduceLeDiff, reduceCtorEq, m1, m2, mz1, mz2, k1, kp, List.getElem?_nil, fd, cellEq_ii, ka, il, l1', mt, br, sp, my, mf, pp, e]
      | true =>
        have hy2 : (0 ≤ n.size ∧ n.size ≤ 65536) ∧ mapOk n.map n.size = true := by simpa using hy
        have e := rightR_ok (n := n) (ok.2 ⟨l1, hz, hy2.1.1, hy2.1.2, hy2.2⟩)
        rw [k1] at e
        rw [hy] at my
        clear l1 hy hy2
        simp (disch := omega) only [wk, avalE, aactE, evPE, boundE, asNat, bv_seql cellsEq_ii, bv_sneqd cellsEq_ii, readC, allOne, fillL, resE, tupled, ↓reduceIte, Nat.reduceEqDiff, Int.reduceEq, Int.reduceLT, Int.reduceLE, Nat.reduceAdd, Nat.reduceMul, Nat.reduceLT, Nat.reduceLeDiff, reduceCtorEq, m1, m2, mz1, mz2, k1, kp, List.getElem?_nil, fd, cellEq_ii, ka, il, l1', mt, br, sp, my, e, purify, unownT, AV.hf, hfL]
  by_cases k2 : n.kind = 2
  · have ok := okI_2 k2
    have fd := find2
    have ka := kindA_2
    have sm := same_2 n k2
    have br := fun H => bare2_px n m hm H
    have my := fun H => may2_px n m hm H
    have sp := fun H => same_px' ⟨2, n.links, 0, [], n.root, n.parent, ⟨#[]⟩⟩ n nilm' m MapR.nil hm (by simp) hn H
    rw [sm] at sp
    simp only [inoA] at br my sp ⊢
    simp only [k2] at br my sp ⊢
    by_cases l1 : 0 ≤ n.links ∧ n.links ≤ 65535
    case neg =>
      have l1' : decide (0 ≤ n.links ∧ n.links ≤ 65535) = false := decide_eq_false l1
      have e := rightR_no (n := n) (fun h => l1 (ok.1 h).1)
      clear l1
      simp (disch := omega) only [wk, avalE, aactE, evPE, boundE, asNat, bv_seql cellsEq_ii, bv_sneqd cellsEq_ii, readC, allOne, fillL, resE, tupled, ↓reduceIte, Nat.reduceEqDiff, Int.reduceEq, Int.reduceLT, Int.reduceLE, Nat.reduceAdd, Nat.reduceMul, Nat.reduceLT, Nat.reduceLeDiff, reduceCtorEq, m1, m2, k2, kp, List.getElem?_nil, fd, cellEq_ii, ka, il, l1', mf, pp, e]
    have l1' : decide (0 ≤ n.links ∧ n.links ≤ 65535) = true := decide_eq_true l1
    cases hz : zB n false true false with
    | false =>
      have e := rightR_no (n := n) (fun h => by have := (ok.1 h).2.1; rw [hz] at this; cases this)
      rw [hz] at sp
      clear l1
      simp (disch := omega) only [wk, avalE, aactE, evPE, boundE, asNat, bv_seql cellsEq_ii, bv_sneqd cellsEq_ii, readC, allOne, fillL, resE, tupled, ↓reduceIte, Nat.reduceEqDiff, Int.reduceEq, Int.reduceLT, Int.reduceLE, Nat.reduceAdd, Nat.reduceMul, Nat.reduceLT, Nat.reduceLeDiff, reduceCtorEq, m1, m2, mz1, mz2, k2, kp, List.getElem?_nil, fd, cellEq_ii, ka, il, l1', mt, br, sp, mf, pp, e]
    | true =>
      rw [hz] at sp
      by_cases hy : (1 ≤ n.root ∧ n.root ≤ 2047) ∧ (1 ≤ n.parent ∧ n.parent ≤ 256)
      case neg =>
        have e := rightR_no (n := n) (fun h => hy (by obtain ⟨_, _, a, b, c, d⟩ := ok.1 h; exact ⟨⟨a, b⟩, ⟨c, d⟩⟩))
        rw [decide_eq_false hy] at my
        clear l1 hy
        simp (disch := omega) only [wk, avalE, aactE, evPE, boundE, asNat, bv_seql cellsEq_ii, bv_sneqd cellsEq_ii, readC, allOne, fillL, resE, tupled, ↓reduceIte, Nat.reduceEqDiff, Int.reduceEq, Int.reduceLT, Int.reduceLE, Nat.reduceAdd, Nat.reduceMul, Nat.reduceLT, Nat.reduceLeDiff, reduceCtorEq, m1, m2, mz1, mz2, k2, kp, List.getElem?_nil, fd, cellEq_ii, ka, il, l1', mt, br, sp, my, mf, pp, e]
      have e := rightR_ok (n := n) (ok.2 ⟨l1, hz, hy.1.1, hy.1.2, hy.2.1, hy.2.2⟩)
      rw [k2] at e
      rw [decide_eq_true hy] at my
      clear l1 hy
      simp (disch := omega) only [wk, avalE, aactE, evPE, boundE, asNat, bv_seql cellsEq_ii, bv_sneqd cellsEq_ii, readC, allOne, fillL, resE, tupled, ↓reduceIte, Nat.reduceEqDiff, Int.reduceEq, Int.reduceLT, Int.reduceLE, Nat.reduceAdd, Nat.reduceMul, Nat.reduceLT, Nat.reduceLeDiff, reduceCtorEq, m1, m2, mz1, mz2, k2, kp, List.getElem?_nil, fd, cellEq_ii, ka, il, l1', mt, br, sp, my, e, purify, unownT, AV.hf, hfL]
  by_cases k3 : n.kind = 3
  · have ok := okI_3 k3
    have fd := find3
    have ka := kindA_3
    have sm := same_3 n k3
    have br := fun H => bare3_px n m hm H
    have my := fun H => may3_px n m hm H
    have sp := fun H => same_px' ⟨3, n.links, 0, [], 0, 0, n.target⟩ n nilm' m MapR.nil hm (by simp) hn H
    rw [sm] at sp
    simp only [inoA] at br my sp ⊢
    simp only [k3] at br my sp ⊢
    by_cases l1 : 0 ≤ n.links ∧ n.links ≤ 65535
    case neg =>
      have l1' : decide (0 ≤ n.links ∧ n.links ≤ 65535) = false := decide_eq_false l1
      have e := rightR_no (n := n) (fun h => l1 (ok.1 h).1)
      clear l1
      simp (disch := omega) only [wk, avalE, aactE, evPE, boundE, asNat, bv_seql cellsEq_ii, bv_sneqd cellsEq_ii, readC, allOne, fillL, resE, tupled, ↓reduceIte, Nat.reduceEqDiff, Int.reduceEq, Int.reduceLT, Int.reduceLE, Nat.reduceAdd, Nat.reduceMul, Nat.reduceLT, Nat.reduceLeDiff, reduceCtorEq, m1, m2, k3, kp, List.getElem?_nil, fd, cellEq_ii, ka, il, l1', mf, pp, e]
    have l1' : decide (0 ≤ n.links ∧ n.links ≤ 65535) = true := decide_eq_true l1
    cases hz : zB n false false true with
    | false =>
      have e := rightR_no (n := n) (fun h => by have := (ok.1 h).2.1; rw [hz] at this; cases this)
      rw [hz] at sp
      clear l1
      simp (disch := omega) only [wk, avalE, aactE, evPE, boundE, asNat, bv_seql cellsEq_ii, bv_sneqd cellsEq_ii, readC, allOne, fillL, resE, tupled, ↓reduceIte, Nat.reduceEqDiff, Int.reduceEq, Int.reduceLT, Int.reduceLE, Nat.reduceAdd, Nat.reduceMul, Nat.reduceLT, Nat.reduceLeDiff, reduceCtorEq, m1, m2, mz1, mz2, k3, kp, List.getElem?_nil, fd, cellEq_ii, ka, il, l1', mt, br, sp, mf, pp, e]
    | true =>
      rw [hz] at sp
      by_cases hy : (1 ≤ (n.target.size : Int) ∧ (n.target.size : Int) ≤ 112) ∧ flatM n.target.data.toList = true
      case neg =>
        have e := rightR_no (n := n) (fun h => hy (by obtain ⟨_, _, a, b, c⟩ := ok.1 h; exact ⟨⟨by omega, by omega⟩, c⟩))
        rw [decide_eq_false hy] at my
        clear l1 hy
        simp (disch := omega) only [wk, avalE, aactE, evPE, boundE, asNat, bv_seql cellsEq_ii, bv_sneqd cellsEq_ii, readC, allOne, fillL, resE, tupled, ↓reduceIte, Nat.reduceEqDiff, Int.reduceEq, Int.reduceLT, Int.reduceLE, Nat.reduceAdd, Nat.reduceMul, Nat.reduceLT, Nat.reduceLeDiff, reduceCtorEq, m1, m2, mz1, mz2, k3, kp, List.getElem?_nil, fd, cellEq_ii, ka, il, l1', mt, br, sp, my, mf, pp, e]
      have e := rightR_ok (n := n) (ok.2 ⟨l1, hz, by have := hy.1.1; omega, by have := hy.1.2; omega, hy.2⟩)
      rw [k3] at e
      rw [decide_eq_true hy] at my
      clear l1 hy
      simp (disch := omega) only [wk, avalE, aactE, evPE, boundE, asNat, bv_seql cellsEq_ii, bv_sneqd cellsEq_ii, readC, allOne, fillL, resE, tupled, ↓reduceIte, Nat.reduceEqDiff, Int.reduceEq, Int.reduceLT, Int.reduceLE, Nat.reduceAdd, Nat.reduceMul, Nat.reduceLT, Nat.reduceLeDiff, reduceCtorEq, m1, m2, mz1, mz2, k3, kp, List.getElem?_nil, fd, cellEq_ii, ka, il, l1', mt, br, sp, my, e, purify, unownT, AV.hf, hfL]
  have e := rightR_no (n := n) (fun h => by have := okI_kind h; omega)
  have fd := find_no k0 k1 k2 k3
  simp only [inoA]
  simp (disch := omega) only [wk, avalE, aactE, evPE, boundE, asNat, bv_seql cellsEq_ii, bv_sneqd cellsEq_ii, readC, allOne, fillL, resE, tupled, ↓reduceIte, Nat.reduceEqDiff, Int.reduceEq, Int.reduceLT, Int.reduceLE, Nat.reduceAdd, Nat.reduceMul, Nat.reduceLT, Nat.reduceLeDiff, reduceCtorEq, m1, m2, kp, List.getElem?_nil, fd, cellEq_ii, mf, pp, e]
theorem check_px (n : Ino) (m : AV) (hm : MapR m n.map) (hn : n.map.length ≤ 1000) (H : Heap) : pcx (cbL tab) 43 [inoA n m] H = some (.plain (.int .i64 (checkI n))) := by
  refine pcx_N rfl (pc_wp (fi := c43) rfl ?_ (by simp [c43]) (by decide) ?_)
  · simp only [pcOn, List.map_cons, List.map_nil, hfL, hf_lend_sl, hf_lend_int, hf_lend_bool, hf_lend_str, hfL_append, Bool.and_self, Bool.and_true, Bool.true_and, c43, lend_inoA hm, hf_inoA hm]
  unfold c43
  rw [List.map_cons, List.map_nil, lend_inoA hm]
  have m1 := hm.one.1
  have m2 := hm.one.2
  have r := fun H => right_px n m hm hn H
  simp only [inoA] at r ⊢
  by_cases h : okI n
  · have e := checkI_ok h
    rw [rightR_ok h] at r
    simp (disch := omega) only [wk, avalE, aactE, evPE, boundE, asNat, bv_seql cellsEq_ii, bv_sneqd cellsEq_ii, readC, allOne, fillL, resE, tupled, ↓reduceIte, Nat.reduceEqDiff, Int.reduceEq, Int.reduceLT, Int.reduceLE, Nat.reduceAdd, Nat.reduceMul, Nat.reduceLT, Nat.reduceLeDiff, reduceCtorEq, m1, m2, r, List.append_nil]
    rw [ends_left_ret (caught_ret _ _ _ _)]
    simp (disch := omega) only [wk, avalE, aactE, evPE, boundE, asNat, bv_seql cellsEq_ii, bv_sneqd cellsEq_ii, readC, allOne, fillL, resE, tupled, ↓reduceIte, Nat.reduceEqDiff, Int.reduceEq, Int.reduceLT, Int.reduceLE, Nat.reduceAdd, Nat.reduceMul, Nat.reduceLT, Nat.reduceLeDiff, reduceCtorEq, e, purify, unownT, AV.hf]
  · have e := checkI_no h
    rw [rightR_no h] at r
    unfold pan240 at r
    simp (disch := omega) only [wk, avalE, aactE, evPE, boundE, asNat, bv_seql cellsEq_ii, bv_sneqd cellsEq_ii, readC, allOne, fillL, resE, tupled, ↓reduceIte, Nat.reduceEqDiff, Int.reduceEq, Int.reduceLT, Int.reduceLE, Nat.reduceAdd, Nat.reduceMul, Nat.reduceLT, Nat.reduceLeDiff, reduceCtorEq, m1, m2, r, List.append_nil]
    rw [ends_left_pan (caught_pan 1 _ _ _ _ _ _ _ (clear77 _) rfl)]
    simp (disch := omega) only [wk, avalE, aactE, evPE, boundE, asNat, bv_seql cellsEq_ii, bv_sneqd cellsEq_ii, readC, allOne, fillL, resE, tupled, ↓reduceIte, Nat.reduceEqDiff, Int.reduceEq, Int.reduceLT, Int.reduceLE, Nat.reduceAdd, Nat.reduceMul, Nat.reduceLT, Nat.reduceLeDiff, reduceCtorEq, e, purify, unownT, AV.hf]
end Go.Proofs.Ytncmflmjlocgiaa
