/- LAYOUTS THAT ARE ONE OF THEIR FORM AND KEY, AND THOSE THAT ARE NOT. No condition but those stated. -/
import Derived.Test.YtailfegmnkldoaaKI
set_option linter.unusedSimpArgs false
set_option linter.unusedVariables false
set_option linter.unusedSectionVars false
namespace Go.Proofs.Ytailfegmnkldoaa
open Go Go.Am Go.Rec
set_option maxHeartbeats 4000000
set_option maxRecDepth 10000
/-- Any layout's cells. -/
def lyA (f : Frm) (k0 k1 c d e g : Int) : List AV := frmA f ++ [.int .u64 k0, .int .u64 k1, .int .i64 c, .int .i64 d, .int .i64 e, .int .i64 g]
def okL (f : Frm) (c d e g : Int) : Prop := okF f ∧ 9 = c ∧ 9 + f.i / 4 = d ∧ 9 + f.i / 4 + f.r / 4 = e ∧ 9 + f.i / 4 + f.r / 4 + 1 = g
instance (f : Frm) (c d e g : Int) : Decidable (okL f c d e g) := inferInstanceAs (Decidable (_ ∧ _))
theorem lof_no {f : Frm} (h : ¬ okF f) (k0 k1 : Int) (H : Heap) : pcx (cbL tab) 157 [.agg (frmA f), .agg [.int .u64 k0, .int .u64 k1]] H = some (.plain (.tup [.agg lay0, .int .i64 2])) := by
  refine pcx_N rfl (pc_wp (fi := c157) rfl rfl (by simp [c157]) (by decide) ?_)
  unfold c157
  have e1 : lend (.agg (frmA f)) = .agg (frmA f) := rfl
  have e2 : lend (.agg [.int .u64 k0, .int .u64 k1]) = .agg [.int .u64 k0, .int .u64 k1] := rfl
  rw [List.map_cons, List.map_cons, List.map_nil, e1, e2]
  have i1 := fun H => lin_px f.b 32 2048 H
  have i2 := fun H => lin_px f.i 4 256 H
  have i3 := fun H => lin_px f.r 4 1024 H
  have i4 := fun H => lin_px f.t 1 40 H
  unfold frmA lay0
  by_cases c1 : 32 ≤ f.b ∧ f.b ≤ 2048
  case neg =>
    rw [decide_eq_false c1] at i1
    clear h
    simp (disch := omega) only [wk, avalE, aactE, evPE, boundE, asNat, bv_seql cellsEq_ii, bv_sneqd cellsEq_ii, readC, allOne, fillL, resE, tupled, ↓reduceIte, Nat.reduceEqDiff, Int.reduceEq, Int.reduceLT, Int.reduceLE, Nat.reduceAdd, Nat.reduceMul, Nat.reduceLT, Nat.reduceLeDiff, reduceCtorEq, i1, c1]
    rw [ret_scp_goto rfl]
    refine ret_again (by decide) (.inl rfl) ?_
    simp (disch := omega) only [wk, avalE, aactE, evPE, boundE, asNat, bv_seql cellsEq_ii, bv_sneqd cellsEq_ii, readC, allOne, fillL, resE, tupled, ↓reduceIte, Nat.reduceEqDiff, Int.reduceEq, Int.reduceLT, Int.reduceLE, Nat.reduceAdd, Nat.reduceMul, Nat.reduceLT, Nat.reduceLeDiff, reduceCtorEq, purify, unownT, lend, unown, AV.hf, hfL, Tk.hf]
  rw [decide_eq_true c1] at i1
  by_cases c4 : 1 ≤ f.t ∧ f.t ≤ 40
  case neg =>
    rw [decide_eq_false c4] at i4
    clear h
    simp (disch := omega) only [wk, avalE, aactE, evPE, boundE, asNat, bv_seql cellsEq_ii, bv_sneqd cellsEq_ii, readC, allOne, fillL, resE, tupled, ↓reduceIte, Nat.reduceEqDiff, Int.reduceEq, Int.reduceLT, Int.reduceLE, Nat.reduceAdd, Nat.reduceMul, Nat.reduceLT, Nat.reduceLeDiff, reduceCtorEq, i1, i4]
    rw [ret_scp_goto rfl]
    refine ret_again (by decide) (.inl rfl) ?_
    simp (disch := omega) only [wk, avalE, aactE, evPE, boundE, asNat, bv_seql cellsEq_ii, bv_sneqd cellsEq_ii, readC, allOne, fillL, resE, tupled, ↓reduceIte, Nat.reduceEqDiff, Int.reduceEq, Int.reduceLT, Int.reduceLE, Nat.reduceAdd, Nat.reduceMul, Nat.reduceLT, Nat.reduceLeDiff, reduceCtorEq, purify, unownT, lend, unown, AV.hf, hfL, Tk.hf]
  rw [decide_eq_true c4] at i4
  by_cases c2 : 4 ≤ f.i ∧ f.i ≤ 256
  case neg =>
    rw [decide_eq_false c2] at i2
    clear h
    simp (disch := omega) only [wk, avalE, aactE, evPE, boundE, asNat, bv_seql cellsEq_ii, bv_sneqd cellsEq_ii, readC, allOne, fillL, resE, tupled, ↓reduceIte, Nat.reduceEqDiff, Int.reduceEq, Int.reduceLT, Int.reduceLE, Nat.reduceAdd, Nat.reduceMul, Nat.reduceLT, Nat.reduceLeDiff, reduceCtorEq, i1, i4, i2]
    rw [ret_scp_goto rfl]
    refine ret_again (by decide) (.inl rfl) ?_
    simp (disch := omega) only [wk, avalE, aactE, evPE, boundE, asNat, bv_seql cellsEq_ii, bv_sneqd cellsEq_ii, readC, allOne, fillL, resE, tupled, ↓reduceIte, Nat.reduceEqDiff, Int.reduceEq, Int.reduceLT, Int.reduceLE, Nat.reduceAdd, Nat.reduceMul, Nat.reduceLT, Nat.reduceLeDiff, reduceCtorEq, purify, unownT, lend, unown, AV.hf, hfL, Tk.hf]
  rw [decide_eq_true c2] at i2
  by_cases c5 : f.i % 4 = 0
  case neg =>
    clear h
    simp (disch := omega) only [wk, avalE, aactE, evPE, boundE, asNat, bv_seql cellsEq_ii, bv_sneqd cellsEq_ii, readC, allOne, fillL, resE, tupled, ↓reduceIte, Nat.reduceEqDiff, Int.reduceEq, Int.reduceLT, Int.reduceLE, Nat.reduceAdd, Nat.reduceMul, Nat.reduceLT, Nat.reduceLeDiff, reduceCtorEq, i1, i4, i2, c5]
    rw [ret_scp_goto rfl]
    refine ret_again (by decide) (.inl rfl) ?_
    simp (disch := omega) only [wk, avalE, aactE, evPE, boundE, asNat, bv_seql cellsEq_ii, bv_sneqd cellsEq_ii, readC, allOne, fillL, resE, tupled, ↓reduceIte, Nat.reduceEqDiff, Int.reduceEq, Int.reduceLT, Int.reduceLE, Nat.reduceAdd, Nat.reduceMul, Nat.reduceLT, Nat.reduceLeDiff, reduceCtorEq, purify, unownT, lend, unown, AV.hf, hfL, Tk.hf]
  by_cases c3 : 4 ≤ f.r ∧ f.r ≤ 1024
  case neg =>
    rw [decide_eq_false c3] at i3
    clear h
    simp (disch := omega) only [wk, avalE, aactE, evPE, boundE, asNat, bv_seql cellsEq_ii, bv_sneqd cellsEq_ii, readC, allOne, fillL, resE, tupled, ↓reduceIte, Nat.reduceEqDiff, Int.reduceEq, Int.reduceLT, Int.reduceLE, Nat.reduceAdd, Nat.reduceMul, Nat.reduceLT, Nat.reduceLeDiff, reduceCtorEq, i1, i4, i2, c5, i3]
    rw [ret_scp_goto rfl]
    refine ret_again (by decide) (.inl rfl) ?_
    simp (disch := omega) only [wk, avalE, aactE, evPE, boundE, asNat, bv_seql cellsEq_ii, bv_sneqd cellsEq_ii, readC, allOne, fillL, resE, tupled, ↓reduceIte, Nat.reduceEqDiff, Int.reduceEq, Int.reduceLT, Int.reduceLE, Nat.reduceAdd, Nat.reduceMul, Nat.reduceLT, Nat.reduceLeDiff, reduceCtorEq, purify, unownT, lend, unown, AV.hf, hfL, Tk.hf]
  rw [decide_eq_true c3] at i3
  by_cases c8 : f.r % 4 = 0
  case neg =>
    clear h
    simp (disch := omega) only [wk, avalE, aactE, evPE, boundE, asNat, bv_seql cellsEq_ii, bv_sneqd cellsEq_ii, readC, allOne, fillL, resE, tupled, ↓reduceIte, Nat.reduceEqDiff, Int.reduceEq, Int.reduceLT, Int.reduceLE, Nat.reduceAdd, Nat.reduceMul, Nat.reduceLT, Nat.reduceLeDiff, reduceCtorEq, i1, i4, i2, c5, i3, c8]
    rw [ret_scp_goto rfl]
    refine ret_again (by decide) (.inl rfl) ?_
    simp (disch := omega) only [wk, avalE, aactE, evPE, boundE, asNat, bv_seql cellsEq_ii, bv_sneqd cellsEq_ii, readC, allOne, fillL, resE, tupled, ↓reduceIte, Nat.reduceEqDiff, Int.reduceEq, Int.reduceLT, Int.reduceLE, Nat.reduceAdd, Nat.reduceMul, Nat.reduceLT, Nat.reduceLeDiff, reduceCtorEq, purify, unownT, lend, unown, AV.hf, hfL, Tk.hf]
  have c11 : f.b - (9 + f.i / 4 + f.r / 4 + 1) < 4 := by
    unfold okF at h
    omega
  have q1 : 0 ≤ f.i := by omega
  have q2 : 0 ≤ f.r := by omega
  clear h
  simp (disch := omega) only [wk, avalE, aactE, evPE, boundE, asNat, bv_seql cellsEq_ii, bv_sneqd cellsEq_ii, readC, allOne, fillL, resE, tupled, ↓reduceIte, Nat.reduceEqDiff, Int.reduceEq, Int.reduceLT, Int.reduceLE, Nat.reduceAdd, Nat.reduceMul, Nat.reduceLT, Nat.reduceLeDiff, reduceCtorEq, i1, i4, i2, c5, i3, c8, c11]
  rw [ret_scp_goto rfl]
  refine ret_again (by decide) (.inl rfl) ?_
  simp (disch := omega) only [wk, avalE, aactE, evPE, boundE, asNat, bv_seql cellsEq_ii, bv_sneqd cellsEq_ii, readC, allOne, fillL, resE, tupled, ↓reduceIte, Nat.reduceEqDiff, Int.reduceEq, Int.reduceLT, Int.reduceLE, Nat.reduceAdd, Nat.reduceMul, Nat.reduceLT, Nat.reduceLeDiff, reduceCtorEq, purify, unownT, lend, unown, AV.hf, hfL, Tk.hf]
theorem cellsI {ks : List Nat} {xs ys : List AV} {k : IntKind} {a b : Int} : cellsEq (0 :: ks) (.int k a :: xs) (.int k b :: ys) = if a = b then cellsEq ks xs ys else some false := by
  have : cellEq 0 (.int k a) (.int k b) = some (a == b) := by show (if k = k then some (a == b) else none) = _; rw [if_pos rfl]
  rw [cellsEq, this]
  by_cases h : a = b
  · rw [if_pos h, h, beq_self_eq_true]
  · rw [if_neg h, beq_eq_false_iff_ne.2 h]
theorem lay_eqn {xo yo : X} {a b c d e f g h i j g' h' i' j' : Int} : binV .eql (.struct [0, 0, 0, 0, 0, 0, 0, 0, 0, 0]) xo yo (.agg [.int .i64 a, .int .i64 b, .int .i64 c, .int .i64 d, .int .u64 e, .int .u64 f, .int .i64 g, .int .i64 h, .int .i64 i, .int .i64 j]) (.agg [.int .i64 a, .int .i64 b, .int .i64 c, .int .i64 d, .int .u64 e, .int .u64 f, .int .i64 g', .int .i64 h', .int .i64 i', .int .i64 j']) = some (.bool (decide (g = g' ∧ h = h' ∧ i = i' ∧ j = j'))) := by
  show (cellsEq _ _ _).map _ = _
  simp only [cellsI, if_true]
  by_cases h1 : g = g'
  · by_cases h2 : h = h'
    · by_cases h3 : i = i'
      · by_cases h4 : j = j'
        · simp only [h1, h2, h3, h4, if_true, and_self, decide_true]; rfl
        · simp only [h1, h2, h3, h4, if_true, if_false, and_false, decide_false]; rfl
      · simp only [h1, h2, h3, if_true, if_false, and_false, false_and, decide_false]; rfl
    · simp only [h1, h2, if_true, if_false, and_false, false_and, decide_false]; rfl
  · simp only [h1, if_false, false_and, decide_false]; rfl
theorem lright_all (f : Frm) (k0 k1 c d e g : Int) (H : Heap) : pcx (cbL tab) 126 [.agg (lyA f k0 k1 c d e g)] H = some (.plain (.bool (decide (okL f c d e g)))) := by
  refine pcx_N rfl (pc_wp (fi := c126) rfl rfl (by simp [c126]) (by decide) ?_)
  unfold c126
  have e1 : lend (.agg (lyA f k0 k1 c d e g)) = .agg (lyA f k0 k1 c d e g) := rfl
  rw [List.map_cons, List.map_nil, e1]
  unfold okL lyA
  by_cases h : okF f
  · have lo := fun H => lof_px h k0 k1 H
    simp only [h, true_and]
    clear h
    unfold layA frmA at lo
    unfold frmA
    simp only [List.cons_append, List.nil_append] at lo ⊢
    simp (disch := omega) only [wk, avalE, aactE, evPE, boundE, asNat, bv_seql cellsEq_ii, bv_sneqd cellsEq_ii, readC, allOne, fillL, resE, tupled, ↓reduceIte, Nat.reduceEqDiff, Int.reduceEq, Int.reduceLT, Int.reduceLE, Nat.reduceAdd, Nat.reduceMul, Nat.reduceLT, Nat.reduceLeDiff, reduceCtorEq, lo, lay_eqn, purify, unownT, lend, unown, AV.hf, hfL, Tk.hf]
  · have lo := fun H => lof_no h k0 k1 H
    simp only [h, false_and, decide_false]
    clear h
    unfold frmA lay0 at lo
    unfold frmA
    simp only [List.cons_append, List.nil_append] at lo ⊢
    simp (disch := omega) only [wk, avalE, aactE, evPE, boundE, asNat, bv_seql cellsEq_ii, bv_sneqd cellsEq_ii, readC, allOne, fillL, resE, tupled, ↓reduceIte, Nat.reduceEqDiff, Int.reduceEq, Int.reduceLT, Int.reduceLE, Nat.reduceAdd, Nat.reduceMul, Nat.reduceLT, Nat.reduceLeDiff, reduceCtorEq, lo, purify, unownT, lend, unown, AV.hf, hfL, Tk.hf]
theorem rright_all (f : Frm) (k0 k1 c d e g : Int) (H : Heap) : pcx (cbL tab) 78 [.agg (lyA f k0 k1 c d e g)] H = some (.plain (.bool (decide (okL f c d e g)))) := by
  refine pcx_N rfl (pc_wp (fi := c78) rfl rfl (by simp [c78]) (by decide) ?_)
  unfold c78
  have e1 : lend (.agg (lyA f k0 k1 c d e g)) = .agg (lyA f k0 k1 c d e g) := rfl
  rw [List.map_cons, List.map_nil, e1]
  unfold okL lyA
  have lo := fun H => rof_px f k0 k1 H
  by_cases h : okF f
  · simp only [h, true_and, if_true] at lo ⊢
    clear h
    unfold layA frmA at lo
    unfold frmA
    simp only [List.cons_append, List.nil_append] at lo ⊢
    simp (disch := omega) only [wk, avalE, aactE, evPE, boundE, asNat, bv_seql cellsEq_ii, bv_sneqd cellsEq_ii, readC, allOne, fillL, resE, tupled, ↓reduceIte, Nat.reduceEqDiff, Int.reduceEq, Int.reduceLT, Int.reduceLE, Nat.reduceAdd, Nat.reduceMul, Nat.reduceLT, Nat.reduceLeDiff, reduceCtorEq, lo, lay_eqn, purify, unownT, lend, unown, AV.hf, hfL, Tk.hf]
  · simp only [h, false_and, decide_false, if_false] at lo ⊢
    clear h
    unfold frmA lay0 at lo
    unfold frmA
    simp only [List.cons_append, List.nil_append] at lo ⊢
    simp (disch := omega) only [wk, avalE, aactE, evPE, boundE, asNat, bv_seql cellsEq_ii, bv_sneqd cellsEq_ii, readC, allOne, fillL, resE, tupled, ↓reduceIte, Nat.reduceEqDiff, Int.reduceEq, Int.reduceLT, Int.reduceLE, Nat.reduceAdd, Nat.reduceMul, Nat.reduceLT, Nat.reduceLeDiff, reduceCtorEq, lo, purify, unownT, lend, unown, AV.hf, hfL, Tk.hf]
theorem super_no {f : Frm} {c d e g : Int} (h : ¬ okL f c d e g) (k0 k1 : Int) (H : Heap) : pcx (cbL tab) 74 [.agg (lyA f k0 k1 c d e g)] H = some (.plain (.tup [.sl 0 0 [] .z, .int .i64 2])) := by
  have hr := fun H => lright_all f k0 k1 c d e g H
  rw [decide_eq_false h] at hr
  clear h
  refine pcx_N rfl (pc_wp (fi := c74) rfl rfl (by simp [c74]) (by decide) ?_)
  unfold c74
  have e1 : lend (.agg (lyA f k0 k1 c d e g)) = .agg (lyA f k0 k1 c d e g) := rfl
  rw [List.map_cons, List.map_nil, e1]
  unfold lyA frmA at hr ⊢
  simp only [List.cons_append, List.nil_append] at hr ⊢
  simp (disch := omega) only [wk, avalE, aactE, evPE, boundE, asNat, bv_seql cellsEq_ii, bv_sneqd cellsEq_ii, readC, allOne, fillL, resE, tupled, ↓reduceIte, Nat.reduceEqDiff, Int.reduceEq, Int.reduceLT, Int.reduceLE, Nat.reduceAdd, Nat.reduceMul, Nat.reduceLT, Nat.reduceLeDiff, reduceCtorEq, hr, purify, unownT, lend, unown, AV.hf, hfL, Tk.hf]
theorem rsum_no {f : Frm} {c d e g : Int} (h : ¬ okL f c d e g) (k0 k1 : Int) (s : ByteArray) (H : Heap) : pcx (cbL tab) 39 [.agg (lyA f k0 k1 c d e g), .str s] H = some (.plain (.tup [.int .u64 0, .int .i64 2])) := by
  have sp := fun H => super_no h k0 k1 H
  clear h
  refine pcx_N rfl (pc_wp (fi := c39) rfl rfl (by simp [c39]) (by decide) ?_)
  unfold c39
  have e1 : lend (.agg (lyA f k0 k1 c d e g)) = .agg (lyA f k0 k1 c d e g) := rfl
  rw [List.map_cons, List.map_cons, List.map_nil, e1, lend_str]
  unfold lyA frmA at sp ⊢
  simp only [List.cons_append, List.nil_append] at sp ⊢
  simp (disch := omega) only [wk, avalE, aactE, evPE, boundE, asNat, bv_seql cellsEq_ii, bv_sneqd cellsEq_ii, readC, allOne, fillL, resE, tupled, ↓reduceIte, Nat.reduceEqDiff, Int.reduceEq, Int.reduceLT, Int.reduceLE, Nat.reduceAdd, Nat.reduceMul, Nat.reduceLT, Nat.reduceLeDiff, reduceCtorEq, sp, purify, unownT, lend, unown, AV.hf, hfL, Tk.hf]
theorem rkey_no {f : Frm} {c d e g : Int} (h : ¬ okL f c d e g) (k0 k1 : Int) (s : ByteArray) (n : Int) (H : Heap) : pcx (cbL tab) 40 [.agg (lyA f k0 k1 c d e g), .str s, .int .i64 n] H = some (.plain (.tup [.int .u64 0, .int .i64 2])) := by
  have sp := fun H => rsum_no h k0 k1 s H
  have ip := fun H => in_px n 0 65535 H
  clear h
  refine pcx_N rfl (pc_wp (fi := c40) rfl rfl (by simp [c40]) (by decide) ?_)
  unfold c40
  have e1 : lend (.agg (lyA f k0 k1 c d e g)) = .agg (lyA f k0 k1 c d e g) := rfl
  rw [List.map_cons, List.map_cons, List.map_cons, List.map_nil, e1, lend_str, lend_int]
  unfold lyA frmA at sp ⊢
  simp only [List.cons_append, List.nil_append] at sp ⊢
  by_cases hn : 0 ≤ n ∧ n ≤ 65535
  · rw [decide_eq_true hn] at ip
    simp (disch := omega) only [wk, avalE, aactE, evPE, boundE, asNat, bv_seql cellsEq_ii, bv_sneqd cellsEq_ii, readC, allOne, fillL, resE, tupled, ↓reduceIte, Nat.reduceEqDiff, Int.reduceEq, Int.reduceLT, Int.reduceLE, Nat.reduceAdd, Nat.reduceMul, Nat.reduceLT, Nat.reduceLeDiff, reduceCtorEq, ip, sp, purify, unownT, lend, unown, AV.hf, hfL, Tk.hf]
  · rw [decide_eq_false hn] at ip
    simp (disch := omega) only [wk, avalE, aactE, evPE, boundE, asNat, bv_seql cellsEq_ii, bv_sneqd cellsEq_ii, readC, allOne, fillL, resE, tupled, ↓reduceIte, Nat.reduceEqDiff, Int.reduceEq, Int.reduceLT, Int.reduceLE, Nat.reduceAdd, Nat.reduceMul, Nat.reduceLT, Nat.reduceLeDiff, reduceCtorEq, ip, purify, unownT, lend, unown, AV.hf, hfL, Tk.hf]
theorem rrsum_no {f : Frm} {c d e g : Int} (h : ¬ okL f c d e g) (k0 k1 : Int) (s : ByteArray) (H : Heap) : pcx (cbL tab) 41 [.agg (lyA f k0 k1 c d e g), .str s] H = some (.plain (.tup [.int .u64 0, .int .i64 2])) := by
  have sp := fun H => rright_all f k0 k1 c d e g H
  rw [decide_eq_false h] at sp
  clear h
  refine pcx_N rfl (pc_wp (fi := c41) rfl rfl (by simp [c41]) (by decide) ?_)
  unfold c41
  have e1 : lend (.agg (lyA f k0 k1 c d e g)) = .agg (lyA f k0 k1 c d e g) := rfl
  rw [List.map_cons, List.map_cons, List.map_nil, e1, lend_str]
  unfold lyA frmA at sp ⊢
  simp only [List.cons_append, List.nil_append] at sp ⊢
  simp (disch := omega) only [wk, avalE, aactE, evPE, boundE, asNat, bv_seql cellsEq_ii, bv_sneqd cellsEq_ii, readC, allOne, fillL, resE, tupled, ↓reduceIte, Nat.reduceEqDiff, Int.reduceEq, Int.reduceLT, Int.reduceLE, Nat.reduceAdd, Nat.reduceMul, Nat.reduceLT, Nat.reduceLeDiff, reduceCtorEq, sp, purify, unownT, lend, unown, AV.hf, hfL, Tk.hf]
theorem rrkey_no {f : Frm} {c d e g : Int} (h : ¬ okL f c d e g) (k0 k1 : Int) (s : ByteArray) (n : Int) (H : Heap) : pcx (cbL tab) 42 [.agg (lyA f k0 k1 c d e g), .str s, .int .i64 n] H = some (.plain (.tup [.int .u64 0, .int .i64 2])) := by
  have sp := fun H => rright_all f k0 k1 c d e g H
  rw [decide_eq_false h] at sp
  clear h
  refine pcx_N rfl (pc_wp (fi := c42) rfl rfl (by simp [c42]) (by decide) ?_)
  unfold c42
  have e1 : lend (.agg (lyA f k0 k1 c d e g)) = .agg (lyA f k0 k1 c d e g) := rfl
  rw [List.map_cons, List.map_cons, List.map_cons, List.map_nil, e1, lend_str, lend_int]
  unfold lyA frmA at sp ⊢
  simp only [List.cons_append, List.nil_append] at sp ⊢
  simp (disch := omega) only [wk, avalE, aactE, evPE, boundE, asNat, bv_seql cellsEq_ii, bv_sneqd cellsEq_ii, readC, allOne, fillL, resE, tupled, ↓reduceIte, Nat.reduceEqDiff, Int.reduceEq, Int.reduceLT, Int.reduceLE, Nat.reduceAdd, Nat.reduceMul, Nat.reduceLT, Nat.reduceLeDiff, reduceCtorEq, sp, purify, unownT, lend, unown, AV.hf, hfL, Tk.hf]
/-- Of one that is. -/
theorem ly_ok {f : Frm} {c d e g : Int} (h : okL f c d e g) (k0 k1 : Int) : lyA f k0 k1 c d e g = layA f k0 k1 := by
  obtain ⟨_, rfl, rfl, rfl, rfl⟩ := h
  rfl
theorem rright_px {f : Frm} (h : okF f) (k0 k1 : Int) (H : Heap) : pcx (cbL tab) 78 [.agg (layA f k0 k1)] H = some (.plain (.bool true)) := by
  have hl : okL f 9 (9 + f.i / 4) (9 + f.i / 4 + f.r / 4) (9 + f.i / 4 + f.r / 4 + 1) := ⟨h, rfl, rfl, rfl, rfl⟩
  have := rright_all f k0 k1 9 (9 + f.i / 4) (9 + f.i / 4 + f.r / 4) (9 + f.i / 4 + f.r / 4 + 1) H
  rwa [decide_eq_true hl, ly_ok hl] at this
theorem rrsum_px {f : Frm} (hf : okF f) {k0 k1 : Int} (h0 : U64 k0) (h1 : U64 k1) (s : ByteArray) (hs : s.size ≤ 300) (H : Heap) :
    pcx (cbL tab) 41 [.agg (layA f k0 k1), .str s] H = some (.plain (.tup [.int .u64 (if nameM s = 0 then ((partM k0 k1 s.data.toList f.t.toNat : Nat) : Int) else 0), .int .i64 (nameM s)])) := by
  have e1 : lend (.agg (layA f k0 k1)) = .agg (layA f k0 k1) := rfl
  refine pcx_N rfl (pc_wp (fi := c41) rfl rfl (by simp [c41]) (by decide) ?_)
  unfold c41
  rw [List.map_cons, List.map_cons, List.map_nil, e1, lend_str]
  have sp := fun H => rright_px hf k0 k1 H
  have np := fun H => rcheck_px s H (by omega)
  have hsz : s.data.toList.length = s.size := size_data s
  obtain ⟨q1, q2, q3, q4, q5, q6, q7, q8, q9, q10, q11⟩ := hf
  unfold layA frmA at sp ⊢
  simp only [List.cons_append, List.nil_append] at sp ⊢
  by_cases hn : nameM s = 0
  · rw [if_pos hn]
    rw [hn] at np ⊢
    obtain ⟨b, hb⟩ := Int.eq_ofNat_of_zero_le (show 0 ≤ f.t by omega)
    have pp := fun H => rpart_px h0 h1 (L := s.data.toList) (by omega) (b := b) (by omega) (by omega) H
    have eb : f.t.toNat = b := by omega
    rw [hsz, ← bytesA_encs, ← hb] at pp
    rw [eb]
    have cv : s.size ≤ 70368744177664 := by omega
    generalize partM k0 k1 s.data.toList b = q at *
    simp (disch := omega) only [wk, avalE, aactE, evPE, boundE, asNat, bv_seql cellsEq_ii, bv_sneqd cellsEq_ii, readC, allOne, fillL, resE, tupled, ↓reduceIte, Nat.reduceEqDiff, Int.reduceEq, Int.reduceLT, Int.reduceLE, Nat.reduceAdd, Nat.reduceMul, Nat.reduceLT, Nat.reduceLeDiff, reduceCtorEq, sp, np, pp, cv, purify, unownT, lend, unown, AV.hf, hfL, Tk.hf]
  · rw [if_neg hn]
    simp (disch := omega) only [wk, avalE, aactE, evPE, boundE, asNat, bv_seql cellsEq_ii, bv_sneqd cellsEq_ii, readC, allOne, fillL, resE, tupled, ↓reduceIte, Nat.reduceEqDiff, Int.reduceEq, Int.reduceLT, Int.reduceLE, Nat.reduceAdd, Nat.reduceMul, Nat.reduceLT, Nat.reduceLeDiff, reduceCtorEq, sp, np, hn, purify, unownT, lend, unown, AV.hf, hfL, Tk.hf]
theorem rrkey_px {f : Frm} (hf : okF f) {k0 k1 : Int} (h0 : U64 k0) (h1 : U64 k1) (s : ByteArray) (hs : s.size ≤ 300) (n : Int) (H : Heap) :
    pcx (cbL tab) 42 [.agg (layA f k0 k1), .str s, .int .i64 n] H = some (.plain (.tup [.int .u64 (if 0 ≤ n ∧ n ≤ 65535 then (if nameM s = 0 then ((partM k0 k1 s.data.toList f.t.toNat : Nat) : Int) * 65536 + n else 0) else 0), .int .i64 (if 0 ≤ n ∧ n ≤ 65535 then nameM s else 2)])) := by
  have e1 : lend (.agg (layA f k0 k1)) = .agg (layA f k0 k1) := rfl
  refine pcx_N rfl (pc_wp (fi := c42) rfl rfl (by simp [c42]) (by decide) ?_)
  unfold c42
  rw [List.map_cons, List.map_cons, List.map_cons, List.map_nil, e1, lend_str, lend_int]
  have rp := fun H => rright_px hf k0 k1 H
  have sp := fun H => rrsum_px hf h0 h1 s hs H
  have pl := partM_lt h0 h1 s.data.toList (b := f.t.toNat) (by have := hf.2.2.2.2.2.2.2.2.2.1; omega)
  have pb : (2 : Nat) ^ f.t.toNat ≤ 1099511627776 := (pows (b := f.t.toNat) (by have := hf.2.2.2.2.2.2.2.2.2.1; omega)).2.2.2
  generalize partM k0 k1 s.data.toList f.t.toNat = q at *
  have hq : q < 1099511627776 := by omega
  clear pl pb
  unfold layA frmA at sp rp ⊢
  simp only [List.cons_append, List.nil_append] at sp rp ⊢
  by_cases hn : 0 ≤ n ∧ n ≤ 65535
  · rw [if_pos hn, if_pos hn]
    obtain ⟨n, rfl⟩ := Int.eq_ofNat_of_zero_le hn.1
    have n0 : ¬ (n : Int) < 0 := by omega
    have n1 : ¬ (65535 : Int) < (n : Int) := by omega
    by_cases hm : nameM s = 0
    · rw [if_pos hm] at sp ⊢
      rw [hm] at sp ⊢
      have wn : IntKind.u64.wrap (n : Int) = (n : Int) := wrap_u64 (by omega) (by omega)
      have wm : IntKind.u64.wrap (65536 * (q : Int)) = (q : Int) * 65536 := by rw [Int.mul_comm]; exact wrap_u64 (by omega) (by omega)
      simp (disch := omega) only [wk, avalE, aactE, evPE, boundE, asNat, bv_seql cellsEq_ii, bv_sneqd cellsEq_ii, readC, allOne, fillL, resE, tupled, ↓reduceIte, Nat.reduceEqDiff, Int.reduceEq, Int.reduceLT, Int.reduceLE, Nat.reduceAdd, Nat.reduceMul, Nat.reduceLT, Nat.reduceLeDiff, reduceCtorEq, rp, sp, n0, n1, wn, wm, purify, unownT, lend, unown, AV.hf, hfL, Tk.hf]
    · rw [if_neg hm] at sp ⊢
      simp (disch := omega) only [wk, avalE, aactE, evPE, boundE, asNat, bv_seql cellsEq_ii, bv_sneqd cellsEq_ii, readC, allOne, fillL, resE, tupled, ↓reduceIte, Nat.reduceEqDiff, Int.reduceEq, Int.reduceLT, Int.reduceLE, Nat.reduceAdd, Nat.reduceMul, Nat.reduceLT, Nat.reduceLeDiff, reduceCtorEq, rp, sp, n0, n1, hm, purify, unownT, lend, unown, AV.hf, hfL, Tk.hf]
  · rw [if_neg hn, if_neg hn]
    by_cases n0 : n < 0
    · simp (disch := omega) only [wk, avalE, aactE, evPE, boundE, asNat, bv_seql cellsEq_ii, bv_sneqd cellsEq_ii, readC, allOne, fillL, resE, tupled, ↓reduceIte, Nat.reduceEqDiff, Int.reduceEq, Int.reduceLT, Int.reduceLE, Nat.reduceAdd, Nat.reduceMul, Nat.reduceLT, Nat.reduceLeDiff, reduceCtorEq, rp, n0, purify, unownT, lend, unown, AV.hf, hfL, Tk.hf]
    · have n1 : (65535 : Int) < n := by omega
      simp (disch := omega) only [wk, avalE, aactE, evPE, boundE, asNat, bv_seql cellsEq_ii, bv_sneqd cellsEq_ii, readC, allOne, fillL, resE, tupled, ↓reduceIte, Nat.reduceEqDiff, Int.reduceEq, Int.reduceLT, Int.reduceLE, Nat.reduceAdd, Nat.reduceMul, Nat.reduceLT, Nat.reduceLeDiff, reduceCtorEq, rp, n0, n1, purify, unownT, lend, unown, AV.hf, hfL, Tk.hf]
end Go.Proofs.Ytailfegmnkldoaa
