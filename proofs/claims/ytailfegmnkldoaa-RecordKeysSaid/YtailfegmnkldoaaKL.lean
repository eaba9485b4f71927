/- LAYOUTS: which forms may be, what a layout is. No condition but those stated. -/
import Derived.Test.YtailfegmnkldoaaR6
set_option linter.unusedSimpArgs false
set_option linter.unusedVariables false
set_option linter.unusedSectionVars false
namespace Go.Proofs.Ytailfegmnkldoaa
open Go Go.Am Go.Rec
set_option maxHeartbeats 4000000
set_option maxRecDepth 10000
/-- A form: blocks, inodes, records, bits. -/
structure Frm where
  b : Int
  i : Int
  r : Int
  t : Int
def frmA (f : Frm) : List AV := [.int .i64 f.b, .int .i64 f.i, .int .i64 f.r, .int .i64 f.t]
def okF (f : Frm) : Prop := 32 ≤ f.b ∧ f.b ≤ 2048 ∧ 4 ≤ f.i ∧ f.i ≤ 256 ∧ f.i % 4 = 0 ∧ 4 ≤ f.r ∧ f.r ≤ 1024 ∧ f.r % 4 = 0 ∧ 1 ≤ f.t ∧ f.t ≤ 40 ∧ 4 ≤ f.b - (9 + f.i / 4 + f.r / 4 + 1)
instance (f : Frm) : Decidable (okF f) := inferInstanceAs (Decidable (_ ∧ _))
def layA (f : Frm) (k0 k1 : Int) : List AV := frmA f ++ [.int .u64 k0, .int .u64 k1, .int .i64 9, .int .i64 (9 + f.i / 4), .int .i64 (9 + f.i / 4 + f.r / 4), .int .i64 (9 + f.i / 4 + f.r / 4 + 1)]
def lay0 : List AV := [.int .i64 0, .int .i64 0, .int .i64 0, .int .i64 0, .int .u64 0, .int .u64 0, .int .i64 0, .int .i64 0, .int .i64 0, .int .i64 0]
theorem runG_un {cb : CB} {rd : Option Nat} {n : Nat} {Q : KP} {ks : List Kt} {E : Env} {df : List ADf} {H : Heap} {b : Bool} {d : Option Nat} {op : AOp} {rest : List AOper} : RunG (.tup []) b d op rest cb rd n Q ks E df H = RR cb rd n Q rest ks (updD E d (.tup [])) df H := rfl
theorem rof_px (f : Frm) (k0 k1 : Int) (H : Heap) : pcx (cbL tab) 45 [.agg (frmA f), .agg [.int .u64 k0, .int .u64 k1]] H = some (.plain (if okF f then .tup [.agg (layA f k0 k1), .int .i64 0] else .tup [.agg lay0, .int .i64 2])) := by
  refine pcx_N rfl (pc_wp (fi := c45) rfl rfl (by simp [c45]) (by decide) ?_)
  unfold c45
  have e1 : lend (.agg (frmA f)) = .agg (frmA f) := rfl
  have e2 : lend (.agg [.int .u64 k0, .int .u64 k1]) = .agg [.int .u64 k0, .int .u64 k1] := rfl
  rw [List.map_cons, List.map_cons, List.map_nil, e1, e2]
  unfold layA frmA lay0
  by_cases c1 : f.b < 32
  · rw [if_neg (by unfold okF; omega)]
    simp (disch := omega) only [wk, avalE, aactE, evPE, boundE, asNat, bv_seql cellsEq_ii, bv_sneqd cellsEq_ii, readC, allOne, fillL, resE, tupled, ↓reduceIte, Nat.reduceEqDiff, Int.reduceEq, Int.reduceLT, Int.reduceLE, Nat.reduceAdd, Nat.reduceMul, Nat.reduceLT, Nat.reduceLeDiff, reduceCtorEq, c1, runG_un, purify, unownT, lend, unown, AV.hf, hfL]
  by_cases c2 : 2048 < f.b
  · rw [if_neg (by unfold okF; omega)]
    simp (disch := omega) only [wk, avalE, aactE, evPE, boundE, asNat, bv_seql cellsEq_ii, bv_sneqd cellsEq_ii, readC, allOne, fillL, resE, tupled, ↓reduceIte, Nat.reduceEqDiff, Int.reduceEq, Int.reduceLT, Int.reduceLE, Nat.reduceAdd, Nat.reduceMul, Nat.reduceLT, Nat.reduceLeDiff, reduceCtorEq, c1, c2, runG_un, purify, unownT, lend, unown, AV.hf, hfL]
  by_cases c3 : f.i < 4
  · rw [if_neg (by unfold okF; omega)]
    simp (disch := omega) only [wk, avalE, aactE, evPE, boundE, asNat, bv_seql cellsEq_ii, bv_sneqd cellsEq_ii, readC, allOne, fillL, resE, tupled, ↓reduceIte, Nat.reduceEqDiff, Int.reduceEq, Int.reduceLT, Int.reduceLE, Nat.reduceAdd, Nat.reduceMul, Nat.reduceLT, Nat.reduceLeDiff, reduceCtorEq, c1, c2, c3, runG_un, purify, unownT, lend, unown, AV.hf, hfL]
  by_cases c4 : 256 < f.i
  · rw [if_neg (by unfold okF; omega)]
    simp (disch := omega) only [wk, avalE, aactE, evPE, boundE, asNat, bv_seql cellsEq_ii, bv_sneqd cellsEq_ii, readC, allOne, fillL, resE, tupled, ↓reduceIte, Nat.reduceEqDiff, Int.reduceEq, Int.reduceLT, Int.reduceLE, Nat.reduceAdd, Nat.reduceMul, Nat.reduceLT, Nat.reduceLeDiff, reduceCtorEq, c1, c2, c3, c4, runG_un, purify, unownT, lend, unown, AV.hf, hfL]
  by_cases c5 : ¬ f.i % 4 = 0
  · rw [if_neg (by unfold okF; omega)]
    simp (disch := omega) only [wk, avalE, aactE, evPE, boundE, asNat, bv_seql cellsEq_ii, bv_sneqd cellsEq_ii, readC, allOne, fillL, resE, tupled, ↓reduceIte, Nat.reduceEqDiff, Int.reduceEq, Int.reduceLT, Int.reduceLE, Nat.reduceAdd, Nat.reduceMul, Nat.reduceLT, Nat.reduceLeDiff, reduceCtorEq, c1, c2, c3, c4, c5, runG_un, purify, unownT, lend, unown, AV.hf, hfL]
  by_cases c6 : f.r < 4
  · rw [if_neg (by unfold okF; omega)]
    simp (disch := omega) only [wk, avalE, aactE, evPE, boundE, asNat, bv_seql cellsEq_ii, bv_sneqd cellsEq_ii, readC, allOne, fillL, resE, tupled, ↓reduceIte, Nat.reduceEqDiff, Int.reduceEq, Int.reduceLT, Int.reduceLE, Nat.reduceAdd, Nat.reduceMul, Nat.reduceLT, Nat.reduceLeDiff, reduceCtorEq, c1, c2, c3, c4, c5, c6, runG_un, purify, unownT, lend, unown, AV.hf, hfL]
  by_cases c7 : 1024 < f.r
  · rw [if_neg (by unfold okF; omega)]
    simp (disch := omega) only [wk, avalE, aactE, evPE, boundE, asNat, bv_seql cellsEq_ii, bv_sneqd cellsEq_ii, readC, allOne, fillL, resE, tupled, ↓reduceIte, Nat.reduceEqDiff, Int.reduceEq, Int.reduceLT, Int.reduceLE, Nat.reduceAdd, Nat.reduceMul, Nat.reduceLT, Nat.reduceLeDiff, reduceCtorEq, c1, c2, c3, c4, c5, c6, c7, runG_un, purify, unownT, lend, unown, AV.hf, hfL]
  by_cases c8 : ¬ f.r % 4 = 0
  · rw [if_neg (by unfold okF; omega)]
    simp (disch := omega) only [wk, avalE, aactE, evPE, boundE, asNat, bv_seql cellsEq_ii, bv_sneqd cellsEq_ii, readC, allOne, fillL, resE, tupled, ↓reduceIte, Nat.reduceEqDiff, Int.reduceEq, Int.reduceLT, Int.reduceLE, Nat.reduceAdd, Nat.reduceMul, Nat.reduceLT, Nat.reduceLeDiff, reduceCtorEq, c1, c2, c3, c4, c5, c6, c7, c8, runG_un, purify, unownT, lend, unown, AV.hf, hfL]
  by_cases c9 : f.t < 1
  · rw [if_neg (by unfold okF; omega)]
    simp (disch := omega) only [wk, avalE, aactE, evPE, boundE, asNat, bv_seql cellsEq_ii, bv_sneqd cellsEq_ii, readC, allOne, fillL, resE, tupled, ↓reduceIte, Nat.reduceEqDiff, Int.reduceEq, Int.reduceLT, Int.reduceLE, Nat.reduceAdd, Nat.reduceMul, Nat.reduceLT, Nat.reduceLeDiff, reduceCtorEq, c1, c2, c3, c4, c5, c6, c7, c8, c9, runG_un, purify, unownT, lend, unown, AV.hf, hfL]
  by_cases c10 : 40 < f.t
  · rw [if_neg (by unfold okF; omega)]
    simp (disch := omega) only [wk, avalE, aactE, evPE, boundE, asNat, bv_seql cellsEq_ii, bv_sneqd cellsEq_ii, readC, allOne, fillL, resE, tupled, ↓reduceIte, Nat.reduceEqDiff, Int.reduceEq, Int.reduceLT, Int.reduceLE, Nat.reduceAdd, Nat.reduceMul, Nat.reduceLT, Nat.reduceLeDiff, reduceCtorEq, c1, c2, c3, c4, c5, c6, c7, c8, c9, c10, runG_un, purify, unownT, lend, unown, AV.hf, hfL]
  have q1 : 0 ≤ f.i := by omega
  have q2 : 0 ≤ f.r := by omega
  by_cases c11 : f.b - (9 + f.i / 4 + f.r / 4 + 1) < 4
  · rw [if_neg (by unfold okF; omega)]
    simp (disch := omega) only [wk, avalE, aactE, evPE, boundE, asNat, bv_seql cellsEq_ii, bv_sneqd cellsEq_ii, readC, allOne, fillL, resE, tupled, ↓reduceIte, Nat.reduceEqDiff, Int.reduceEq, Int.reduceLT, Int.reduceLE, Nat.reduceAdd, Nat.reduceMul, Nat.reduceLT, Nat.reduceLeDiff, reduceCtorEq, c1, c2, c3, c4, c5, c6, c7, c8, c9, c10, c11, runG_un, purify, unownT, lend, unown, AV.hf, hfL]
  · rw [if_pos (by unfold okF; omega)]
    simp (disch := omega) only [wk, avalE, aactE, evPE, boundE, asNat, bv_seql cellsEq_ii, bv_sneqd cellsEq_ii, readC, allOne, fillL, resE, tupled, ↓reduceIte, Nat.reduceEqDiff, Int.reduceEq, Int.reduceLT, Int.reduceLE, Nat.reduceAdd, Nat.reduceMul, Nat.reduceLT, Nat.reduceLeDiff, reduceCtorEq, c1, c2, c3, c4, c5, c6, c7, c8, c9, c10, c11, runG_un, purify, unownT, lend, unown, AV.hf, hfL, List.cons_append, List.nil_append]
theorem lin_px (n lo hi : Int) (H : Heap) : pcx (cbL tab) 181 [.int .i64 n, .int .i64 lo, .int .i64 hi] H = some (.plain (.bool (decide (lo ≤ n ∧ n ≤ hi)))) := by
  refine pcx_N rfl (pc_wp (fi := c181) rfl rfl (by simp [c181]) (by decide) ?_)
  unfold c181
  rw [List.map_cons, List.map_cons, List.map_cons, List.map_nil, lend_int, lend_int, lend_int]
  by_cases h1 : lo ≤ n <;> by_cases h2 : n ≤ hi <;> simp (disch := omega) only [wk, avalE, aactE, evPE, boundE, asNat, bv_seql cellsEq_ii, bv_sneqd cellsEq_ii, readC, allOne, fillL, resE, tupled, ↓reduceIte, Nat.reduceEqDiff, Int.reduceEq, Int.reduceLT, Int.reduceLE, Nat.reduceAdd, Nat.reduceMul, Nat.reduceLT, Nat.reduceLeDiff, reduceCtorEq, h1, h2, purify, unownT, lend, AV.hf, and_false, false_and]
theorem lof_px {f : Frm} (h : okF f) (k0 k1 : Int) (H : Heap) : pcx (cbL tab) 157 [.agg (frmA f), .agg [.int .u64 k0, .int .u64 k1]] H = some (.plain (.tup [.agg (layA f k0 k1), .int .i64 0])) := by
  refine pcx_N rfl (pc_wp (fi := c157) rfl rfl (by simp [c157]) (by decide) ?_)
  unfold c157
  have e1 : lend (.agg (frmA f)) = .agg (frmA f) := rfl
  have e2 : lend (.agg [.int .u64 k0, .int .u64 k1]) = .agg [.int .u64 k0, .int .u64 k1] := rfl
  rw [List.map_cons, List.map_cons, List.map_nil, e1, e2]
  obtain ⟨h1, h2, h3, h4, h5, h6, h7, h8, h9, h10, h11⟩ := h
  have p1 : decide (32 ≤ f.b ∧ f.b ≤ 2048) = true := decide_eq_true ⟨h1, h2⟩
  have p2 : decide (4 ≤ f.i ∧ f.i ≤ 256) = true := decide_eq_true ⟨h3, h4⟩
  have p3 : decide (4 ≤ f.r ∧ f.r ≤ 1024) = true := decide_eq_true ⟨h6, h7⟩
  have p4 : decide (1 ≤ f.t ∧ f.t ≤ 40) = true := decide_eq_true ⟨h9, h10⟩
  have q1 : 0 ≤ f.i := by omega
  have q2 : 0 ≤ f.r := by omega
  have i1 := fun H => lin_px f.b 32 2048 H
  have i2 := fun H => lin_px f.i 4 256 H
  have i3 := fun H => lin_px f.r 4 1024 H
  have i4 := fun H => lin_px f.t 1 40 H
  rw [p1] at i1
  rw [p2] at i2
  rw [p3] at i3
  rw [p4] at i4
  have c11 : ¬ f.b - (9 + f.i / 4 + f.r / 4 + 1) < 4 := by omega
  unfold layA frmA
  simp (disch := omega) only [wk, avalE, aactE, evPE, boundE, asNat, bv_seql cellsEq_ii, bv_sneqd cellsEq_ii, readC, allOne, fillL, resE, tupled, ↓reduceIte, Nat.reduceEqDiff, Int.reduceEq, Int.reduceLT, Int.reduceLE, Nat.reduceAdd, Nat.reduceMul, Nat.reduceLT, Nat.reduceLeDiff, reduceCtorEq, i1, i2, i3, i4, h5, h8, c11, purify, unownT, lend, unown, AV.hf, hfL, List.cons_append, List.nil_append]
theorem lay_eql {xo yo : X} {a b c d e f g h i j : Int} : binV .eql (.struct [0, 0, 0, 0, 0, 0, 0, 0, 0, 0]) xo yo (.agg [.int .i64 a, .int .i64 b, .int .i64 c, .int .i64 d, .int .u64 e, .int .u64 f, .int .i64 g, .int .i64 h, .int .i64 i, .int .i64 j]) (.agg [.int .i64 a, .int .i64 b, .int .i64 c, .int .i64 d, .int .u64 e, .int .u64 f, .int .i64 g, .int .i64 h, .int .i64 i, .int .i64 j]) = some (.bool true) := by
  have ke : ∀ a : Int, cellEq 0 (.int .i64 a) (.int .i64 a) = some true := fun a => by show some (a == a) = _; rw [beq_self_eq_true]
  have ku : ∀ a : Int, cellEq 0 (.int .u64 a) (.int .u64 a) = some true := fun a => by show some (a == a) = _; rw [beq_self_eq_true]
  show (cellsEq _ _ _).map _ = _
  simp only [cellsEq, ke, ku]
  rfl
theorem lright_px {f : Frm} (h : okF f) (k0 k1 : Int) (H : Heap) : pcx (cbL tab) 126 [.agg (layA f k0 k1)] H = some (.plain (.bool true)) := by
  refine pcx_N rfl (pc_wp (fi := c126) rfl rfl (by simp [c126]) (by decide) ?_)
  unfold c126
  have e1 : lend (.agg (layA f k0 k1)) = .agg (layA f k0 k1) := rfl
  rw [List.map_cons, List.map_nil, e1]
  have lo := fun H => lof_px h k0 k1 H
  unfold layA frmA at lo ⊢
  simp only [List.cons_append, List.nil_append] at lo ⊢
  simp (disch := omega) only [wk, avalE, aactE, evPE, boundE, asNat, bv_seql cellsEq_ii, bv_sneqd cellsEq_ii, readC, allOne, fillL, resE, tupled, ↓reduceIte, Nat.reduceEqDiff, Int.reduceEq, Int.reduceLT, Int.reduceLE, Nat.reduceAdd, Nat.reduceMul, Nat.reduceLT, Nat.reduceLeDiff, reduceCtorEq, lo, lay_eql, purify, unownT, lend, unown, AV.hf, hfL]
end Go.Proofs.Ytailfegmnkldoaa
