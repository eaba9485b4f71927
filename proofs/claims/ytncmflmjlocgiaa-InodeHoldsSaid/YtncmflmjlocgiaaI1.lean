/- FIELDS OF INODES AND EXTENTS; Linked. No condition but those stated. -/
import Derived.Test.YtncmflmjlocgiaaI0
set_option linter.unusedSimpArgs false
set_option linter.unusedVariables false
set_option linter.unusedSectionVars false
namespace Go.Proofs.Ytncmflmjlocgiaa
open Go Go.Am Go.Rec Go.Ino
set_option maxHeartbeats 2000000
set_option maxRecDepth 10000
theorem ink_px (n lo hi : Int) (H : Heap) : pcx (cbL tab) 73 [.int .i64 n, .int .i64 lo, .int .i64 hi] H = some (.plain (.bool (decide (lo ≤ n ∧ n ≤ hi)))) := by
  refine pcx_N rfl (pc_wp (fi := c73) rfl rfl (by simp [c73]) (by decide) ?_)
  unfold c73
  rw [List.map_cons, List.map_cons, List.map_cons, List.map_nil, lend_int, lend_int, lend_int]
  by_cases h1 : lo ≤ n <;> by_cases h2 : n ≤ hi <;> simp (disch := omega) only [wk, avalE, aactE, evPE, boundE, asNat, bv_seql cellsEq_ii, bv_sneqd cellsEq_ii, readC, allOne, fillL, resE, tupled, ↓reduceIte, Nat.reduceEqDiff, Int.reduceEq, Int.reduceLT, Int.reduceLE, Nat.reduceAdd, Nat.reduceMul, Nat.reduceLT, Nat.reduceLeDiff, reduceCtorEq, h1, h2, purify, unownT, AV.hf]
theorem ini_px (n lo hi : Int) (H : Heap) : pcx (cbL tab) 74 [.int .i64 n, .int .i64 lo, .int .i64 hi] H = some (.plain (.bool (decide (lo ≤ n ∧ n ≤ hi)))) := by
  refine pcx_N rfl (pc_wp (fi := c74) rfl rfl (by simp [c74]) (by decide) ?_)
  unfold c74
  rw [List.map_cons, List.map_cons, List.map_cons, List.map_nil, lend_int, lend_int, lend_int]
  by_cases h1 : lo ≤ n <;> by_cases h2 : n ≤ hi <;> simp (disch := omega) only [wk, avalE, aactE, evPE, boundE, asNat, bv_seql cellsEq_ii, bv_sneqd cellsEq_ii, readC, allOne, fillL, resE, tupled, ↓reduceIte, Nat.reduceEqDiff, Int.reduceEq, Int.reduceLT, Int.reduceLE, Nat.reduceAdd, Nat.reduceMul, Nat.reduceLT, Nat.reduceLeDiff, reduceCtorEq, h1, h2, purify, unownT, AV.hf]
theorem inw_px (n lo hi : Int) (H : Heap) : pcx (cbL tab) 112 [.int .u64 n, .int .u64 lo, .int .u64 hi] H = some (.plain (.bool (decide (lo ≤ n ∧ n ≤ hi)))) := by
  refine pcx_N rfl (pc_wp (fi := c112) rfl rfl (by simp [c112]) (by decide) ?_)
  unfold c112
  rw [List.map_cons, List.map_cons, List.map_cons, List.map_nil, lend_int, lend_int, lend_int]
  by_cases h1 : lo ≤ n <;> by_cases h2 : n ≤ hi <;> simp (disch := omega) only [wk, avalE, aactE, evPE, boundE, asNat, bv_seql cellsEq_ii, bv_sneqd cellsEq_ii, readC, allOne, fillL, resE, tupled, ↓reduceIte, Nat.reduceEqDiff, Int.reduceEq, Int.reduceLT, Int.reduceLE, Nat.reduceAdd, Nat.reduceMul, Nat.reduceLT, Nat.reduceLeDiff, reduceCtorEq, h1, h2, purify, unownT, AV.hf]
theorem num_px (n : Int) (H : Heap) : pcx (cbL tab) 36 [.int .i64 n] H = some (.plain (.int .i64 n)) := by
  refine pcx_N rfl (pc_wp (fi := c36) rfl rfl (by simp [c36]) (by decide) ?_)
  unfold c36
  rw [List.map_cons, List.map_nil, lend_int]
  simp (disch := omega) only [wk, avalE, aactE, evPE, boundE, asNat, bv_seql cellsEq_ii, bv_sneqd cellsEq_ii, readC, allOne, fillL, resE, tupled, ↓reduceIte, Nat.reduceEqDiff, Int.reduceEq, Int.reduceLT, Int.reduceLE, Nat.reduceAdd, Nat.reduceMul, Nat.reduceLT, Nat.reduceLeDiff, reduceCtorEq, purify, unownT, AV.hf]
theorem th08 (H : Heap) : pcx (cbL tab) 81 [.int .i64 (0 : Nat), .int .i64 (8 : Nat)] H = some (.plain (.bool true)) := pcx_evb rfl (by kernel_rfl) H
theorem th824 (H : Heap) : pcx (cbL tab) 81 [.int .i64 (8 : Nat), .int .i64 (24 : Nat)] H = some (.plain (.bool true)) := pcx_evb rfl (by kernel_rfl) H
theorem th016 (H : Heap) : pcx (cbL tab) 81 [.int .i64 (0 : Nat), .int .i64 (16 : Nat)] H = some (.plain (.bool true)) := pcx_evb rfl (by kernel_rfl) H
theorem th1624 (H : Heap) : pcx (cbL tab) 81 [.int .i64 (16 : Nat), .int .i64 (24 : Nat)] H = some (.plain (.bool true)) := pcx_evb rfl (by kernel_rfl) H
theorem th4016 (H : Heap) : pcx (cbL tab) 81 [.int .i64 (40 : Nat), .int .i64 (16 : Nat)] H = some (.plain (.bool true)) := pcx_evb rfl (by kernel_rfl) H
theorem mk08 (H : Heap) : pcx (cbL tab) 83 [.int .i64 (0 : Nat), .int .i64 (8 : Nat)] H = some (.plain (.int .u64 ((maskN 0 8 : Nat) : Int))) := pcx_ev rfl (by kernel_rfl) H
theorem mk824 (H : Heap) : pcx (cbL tab) 83 [.int .i64 (8 : Nat), .int .i64 (24 : Nat)] H = some (.plain (.int .u64 ((maskN 8 24 : Nat) : Int))) := pcx_ev rfl (by kernel_rfl) H
theorem mk016 (H : Heap) : pcx (cbL tab) 83 [.int .i64 (0 : Nat), .int .i64 (16 : Nat)] H = some (.plain (.int .u64 ((maskN 0 16 : Nat) : Int))) := pcx_ev rfl (by kernel_rfl) H
theorem mk1624 (H : Heap) : pcx (cbL tab) 83 [.int .i64 (16 : Nat), .int .i64 (24 : Nat)] H = some (.plain (.int .u64 ((maskN 16 24 : Nat) : Int))) := pcx_ev rfl (by kernel_rfl) H
theorem mk4016 (H : Heap) : pcx (cbL tab) 83 [.int .i64 (40 : Nat), .int .i64 (16 : Nat)] H = some (.plain (.int .u64 ((maskN 40 16 : Nat) : Int))) := pcx_ev rfl (by kernel_rfl) H
theorem mz24 (H : Heap) : pcx (cbL tab) 83 [.int .i64 0, .int .i64 (24 : Nat)] H = some (.plain (.int .u64 (2 ^ 24 - 1))) := pcx_ev rfl (by kernel_rfl) H
theorem mz16 (H : Heap) : pcx (cbL tab) 83 [.int .i64 0, .int .i64 (16 : Nat)] H = some (.plain (.int .u64 (2 ^ 16 - 1))) := pcx_ev rfl (by kernel_rfl) H
theorem f08 (w : Int) (h0 : 0 ≤ w) (h1 : w < 18446744073709551616) (H : Heap) : pcx (cbL tab) 53 [.int .u64 w, .int .i64 0, .int .i64 8] H = some (.plain (.tup [.int .u64 (w % 256), .int .i64 0])) := by
  have h := field_gen 0 8 w h0 h1 (by decide) (by decide) th08 mk08 H
  have e : w / 2 ^ 0 % 2 ^ 8 = w % 256 := by show w / 1 % 256 = _; rw [Int.ediv_one]
  rw [e] at h; exact h
theorem f824 (w : Int) (h0 : 0 ≤ w) (h1 : w < 18446744073709551616) (H : Heap) : pcx (cbL tab) 53 [.int .u64 w, .int .i64 8, .int .i64 24] H = some (.plain (.tup [.int .u64 (w / 256 % 16777216), .int .i64 0])) :=
  field_gen 8 24 w h0 h1 (by decide) (by decide) th824 mk824 H
theorem f016 (w : Int) (h0 : 0 ≤ w) (h1 : w < 18446744073709551616) (H : Heap) : pcx (cbL tab) 53 [.int .u64 w, .int .i64 0, .int .i64 16] H = some (.plain (.tup [.int .u64 (w % 65536), .int .i64 0])) := by
  have h := field_gen 0 16 w h0 h1 (by decide) (by decide) th016 mk016 H
  have e : w / 2 ^ 0 % 2 ^ 16 = w % 65536 := by show w / 1 % 65536 = _; rw [Int.ediv_one]
  rw [e] at h; exact h
theorem f1624 (w : Int) (h0 : 0 ≤ w) (h1 : w < 18446744073709551616) (H : Heap) : pcx (cbL tab) 53 [.int .u64 w, .int .i64 16, .int .i64 24] H = some (.plain (.tup [.int .u64 (w / 65536 % 16777216), .int .i64 0])) :=
  field_gen 16 24 w h0 h1 (by decide) (by decide) th1624 mk1624 H
theorem f4016 (w : Int) (h0 : 0 ≤ w) (h1 : w < 18446744073709551616) (H : Heap) : pcx (cbL tab) 53 [.int .u64 w, .int .i64 40, .int .i64 16] H = some (.plain (.tup [.int .u64 (w / 1099511627776 % 65536), .int .i64 0])) :=
  field_gen 40 16 w h0 h1 (by decide) (by decide) th4016 mk4016 H
theorem w824 (w v : Int) (h0 : 0 ≤ w) (h1 : w < 4294967296) (v0 : 0 ≤ v) (v1 : v < 16777216) (H : Heap) : pcx (cbL tab) 47 [.int .u64 w, .int .i64 8, .int .i64 24, .int .u64 v] H = some (.plain (.tup [.int .u64 (w % 256 + 256 * v), .int .i64 0])) := by
  have h := with_gen 8 24 w v h0 h1 (by decide) (by decide) v0 v1 th824 mk824 mz24 H
  have e : w % 2 ^ 8 + v * 2 ^ 8 = w % 256 + 256 * v := by show w % 256 + v * 256 = _; omega
  rw [e] at h; exact h
theorem w016 (v : Int) (v0 : 0 ≤ v) (v1 : v < 65536) (H : Heap) : pcx (cbL tab) 47 [.int .u64 0, .int .i64 0, .int .i64 16, .int .u64 v] H = some (.plain (.tup [.int .u64 v, .int .i64 0])) := by
  have h := with_gen 0 16 0 v (by decide) (by decide) (by decide) (by decide) v0 v1 th016 mk016 mz16 H
  have e : (0 : Int) % 2 ^ 0 + v * 2 ^ 0 = v := by show (0 : Int) % 1 + v * 1 = _; omega
  rw [e] at h; exact h
theorem w1624 (w v : Int) (h0 : 0 ≤ w) (h1 : w < 65536) (v0 : 0 ≤ v) (v1 : v < 16777216) (H : Heap) : pcx (cbL tab) 47 [.int .u64 w, .int .i64 16, .int .i64 24, .int .u64 v] H = some (.plain (.tup [.int .u64 (w + 65536 * v), .int .i64 0])) := by
  have h := with_gen 16 24 w v h0 (by show w < 1099511627776; omega) (by decide) (by decide) v0 v1 th1624 mk1624 mz24 H
  have e : w % 2 ^ 16 + v * 2 ^ 16 = w + 65536 * v := by show w % 65536 + v * 65536 = _; omega
  rw [e] at h; exact h
theorem w4016 (w v : Int) (h0 : 0 ≤ w) (h1 : w < 1099511627776) (v0 : 0 ≤ v) (v1 : v < 65536) (H : Heap) : pcx (cbL tab) 47 [.int .u64 w, .int .i64 40, .int .i64 16, .int .u64 v] H = some (.plain (.tup [.int .u64 (w + 1099511627776 * v), .int .i64 0])) := by
  have h := with_gen 40 16 w v h0 (by show w < 72057594037927936; omega) (by decide) (by decide) v0 v1 th4016 mk4016 mz16 H
  have e : w % 2 ^ 40 + v * 2 ^ 40 = w + 1099511627776 * v := by show w % 1099511627776 + v * 1099511627776 = _; omega
  rw [e] at h; exact h
/-- A first word with other links. -/
def linkedM (w k : Int) : Int × Int := if w < 4294967296 ∧ (1 ≤ w % 256 ∧ w % 256 ≤ 3) ∧ (0 ≤ k ∧ k ≤ 65535) then (w % 256 + 256 * k, 0) else (0, 240)
def linkedR (x : Int × Int) : AV := .tup [.int .u64 x.1, .int .i64 x.2]
theorem linked_px (w k : Int) (h0 : 0 ≤ w) (h1 : w < 18446744073709551616) (H : Heap) : pcx (cbL tab) 38 [.int .u64 w, .int .i64 k] H = some (.plain (linkedR (linkedM w k))) := by
  refine pcx_N rfl (pc_wp (fi := c38) rfl rfl (by simp [c38]) (by decide) ?_)
  unfold c38
  rw [List.map_cons, List.map_cons, List.map_nil, lend_int, lend_int]
  have a1 := fun H => f08 w h0 h1 H
  have sh : ∀ xo yo ek, binV .shr ek xo yo (.int .u64 w) (.int .u64 32) = some (.int .u64 (w / 4294967296)) := fun xo yo ek => u64_shr (b := 32) (k := .u64) (by decide) (by decide)
  have cv : IntKind.i64.wrap (w % 256) = w % 256 := wrap_i64 (by omega) (by omega)
  have a2 := fun H => ink_px (w % 256) 1 3 H
  have a3 := fun H => ini_px k 0 65535 H
  by_cases c1 : w < 4294967296
  case neg =>
    have d1 : ¬ w / 4294967296 = 0 := by omega
    have e : linkedM w k = (0, 240) := if_neg (fun h => c1 h.1)
    simp (disch := omega) only [wk, avalE, aactE, evPE, boundE, asNat, bv_seql cellsEq_ii, bv_sneqd cellsEq_ii, readC, allOne, fillL, resE, tupled, ↓reduceIte, Nat.reduceEqDiff, Int.reduceEq, Int.reduceLT, Int.reduceLE, Nat.reduceAdd, Nat.reduceMul, Nat.reduceLT, Nat.reduceLeDiff, reduceCtorEq, a1, sh, d1, e, linkedR, purify, unownT, AV.hf, hfL, unown]
  have d1 : w / 4294967296 = 0 := by omega
  by_cases c2 : 1 ≤ w % 256 ∧ w % 256 ≤ 3
  case neg =>
    have e : linkedM w k = (0, 240) := if_neg (fun h => c2 h.2.1)
    have c2' : decide (1 ≤ w % 256 ∧ w % 256 ≤ 3) = false := decide_eq_false c2
    clear c2
    simp (disch := omega) only [wk, avalE, aactE, evPE, boundE, asNat, bv_seql cellsEq_ii, bv_sneqd cellsEq_ii, readC, allOne, fillL, resE, tupled, ↓reduceIte, Nat.reduceEqDiff, Int.reduceEq, Int.reduceLT, Int.reduceLE, Nat.reduceAdd, Nat.reduceMul, Nat.reduceLT, Nat.reduceLeDiff, reduceCtorEq, a1, sh, d1, cv, a2, c2', e, linkedR, purify, unownT, AV.hf, hfL, unown]
  by_cases c3 : 0 ≤ k ∧ k ≤ 65535
  case neg =>
    have e : linkedM w k = (0, 240) := if_neg (fun h => c3 h.2.2)
    have c3' : decide (0 ≤ k ∧ k ≤ 65535) = false := decide_eq_false c3
    clear c3
    simp (disch := omega) only [wk, avalE, aactE, evPE, boundE, asNat, bv_seql cellsEq_ii, bv_sneqd cellsEq_ii, readC, allOne, fillL, resE, tupled, ↓reduceIte, Nat.reduceEqDiff, Int.reduceEq, Int.reduceLT, Int.reduceLE, Nat.reduceAdd, Nat.reduceMul, Nat.reduceLT, Nat.reduceLeDiff, reduceCtorEq, a1, sh, d1, cv, a2, c2, a3, c3', e, linkedR, purify, unownT, AV.hf, hfL, unown]
  have e : linkedM w k = (w % 256 + 256 * k, 0) := if_pos ⟨c1, c2, c3⟩
  have cv2 : IntKind.u64.wrap k = k := wrap_u64 (by omega) (by omega)
  have a4 := fun H => w824 w k h0 c1 c3.1 (by omega) H
  simp (disch := omega) only [wk, avalE, aactE, evPE, boundE, asNat, bv_seql cellsEq_ii, bv_sneqd cellsEq_ii, readC, allOne, fillL, resE, tupled, ↓reduceIte, Nat.reduceEqDiff, Int.reduceEq, Int.reduceLT, Int.reduceLE, Nat.reduceAdd, Nat.reduceMul, Nat.reduceLT, Nat.reduceLeDiff, reduceCtorEq, a1, sh, d1, cv, a2, c2, a3, c3, cv2, a4, e, linkedR, purify, unownT, AV.hf, hfL, unown]
theorem rlinked_px (w k : Int) (h0 : 0 ≤ w) (h1 : w < 18446744073709551616) (H : Heap) : pcx (cbL tab) 39 [.int .u64 w, .int .i64 k] H = some (.plain (linkedR (linkedM w k))) := by
  refine pcx_N rfl (pc_wp (fi := c39) rfl rfl (by simp [c39]) (by decide) ?_)
  unfold c39
  rw [List.map_cons, List.map_cons, List.map_nil, lend_int, lend_int]
  by_cases c1 : 4294967296 ≤ w
  · have e : linkedM w k = (0, 240) := if_neg (fun h => by omega)
    simp (disch := omega) only [wk, avalE, aactE, evPE, boundE, asNat, bv_seql cellsEq_ii, bv_sneqd cellsEq_ii, readC, allOne, fillL, resE, tupled, ↓reduceIte, Nat.reduceEqDiff, Int.reduceEq, Int.reduceLT, Int.reduceLE, Nat.reduceAdd, Nat.reduceMul, Nat.reduceLT, Nat.reduceLeDiff, reduceCtorEq, c1, e, linkedR, purify, unownT, AV.hf, hfL, unown]
  by_cases c2 : w % 256 < 1
  · have e : linkedM w k = (0, 240) := if_neg (fun h => by omega)
    simp (disch := omega) only [wk, avalE, aactE, evPE, boundE, asNat, bv_seql cellsEq_ii, bv_sneqd cellsEq_ii, readC, allOne, fillL, resE, tupled, ↓reduceIte, Nat.reduceEqDiff, Int.reduceEq, Int.reduceLT, Int.reduceLE, Nat.reduceAdd, Nat.reduceMul, Nat.reduceLT, Nat.reduceLeDiff, reduceCtorEq, c1, c2, e, linkedR, purify, unownT, AV.hf, hfL, unown]
  by_cases c3 : 3 < w % 256
  · have e : linkedM w k = (0, 240) := if_neg (fun h => by omega)
    simp (disch := omega) only [wk, avalE, aactE, evPE, boundE, asNat, bv_seql cellsEq_ii, bv_sneqd cellsEq_ii, readC, allOne, fillL, resE, tupled, ↓reduceIte, Nat.reduceEqDiff, Int.reduceEq, Int.reduceLT, Int.reduceLE, Nat.reduceAdd, Nat.reduceMul, Nat.reduceLT, Nat.reduceLeDiff, reduceCtorEq, c1, c2, c3, e, linkedR, purify, unownT, AV.hf, hfL, unown]
  by_cases c4 : k < 0
  · have e : linkedM w k = (0, 240) := if_neg (fun h => by omega)
    simp (disch := omega) only [wk, avalE, aactE, evPE, boundE, asNat, bv_seql cellsEq_ii, bv_sneqd cellsEq_ii, readC, allOne, fillL, resE, tupled, ↓reduceIte, Nat.reduceEqDiff, Int.reduceEq, Int.reduceLT, Int.reduceLE, Nat.reduceAdd, Nat.reduceMul, Nat.reduceLT, Nat.reduceLeDiff, reduceCtorEq, c1, c2, c3, c4, e, linkedR, purify, unownT, AV.hf, hfL, unown]
  by_cases c5 : 65535 < k
  · have e : linkedM w k = (0, 240) := if_neg (fun h => by omega)
    simp (disch := omega) only [wk, avalE, aactE, evPE, boundE, asNat, bv_seql cellsEq_ii, bv_sneqd cellsEq_ii, readC, allOne, fillL, resE, tupled, ↓reduceIte, Nat.reduceEqDiff, Int.reduceEq, Int.reduceLT, Int.reduceLE, Nat.reduceAdd, Nat.reduceMul, Nat.reduceLT, Nat.reduceLeDiff, reduceCtorEq, c1, c2, c3, c4, c5, e, linkedR, purify, unownT, AV.hf, hfL, unown]
  have e : linkedM w k = (w % 256 + 256 * k, 0) := if_pos (by omega)
  have cv2 : IntKind.u64.wrap k = k := wrap_u64 (by omega) (by omega)
  simp (disch := omega) only [wk, avalE, aactE, evPE, boundE, asNat, bv_seql cellsEq_ii, bv_sneqd cellsEq_ii, readC, allOne, fillL, resE, tupled, ↓reduceIte, Nat.reduceEqDiff, Int.reduceEq, Int.reduceLT, Int.reduceLE, Nat.reduceAdd, Nat.reduceMul, Nat.reduceLT, Nat.reduceLeDiff, reduceCtorEq, c1, c2, c3, c4, c5, cv2, e, linkedR, purify, unownT, AV.hf, hfL, unown]
end Go.Proofs.Ytncmflmjlocgiaa
