/- THE WALKS OF A HEAD'S WORDS: whether they may be, what is put, in memory. No condition but those stated. -/
import Derived.Test.YtailfegmnkldoaaNW
import Derived.Test.YtailfegmnkldoaaS12
set_option linter.unusedSimpArgs false
set_option linter.unusedVariables false
set_option linter.unusedSectionVars false
namespace Go.Proofs.Ytailfegmnkldoaa
open Go Go.Am Go.Slots Go.Nod
set_option maxHeartbeats 8000000
set_option maxRecDepth 10000
theorem runG_un {cb : CB} {rd : Option Nat} {n : Nat} {Q : KP} {ks : List Kt} {E : Env} {df : List ADf} {H : Heap} {b : Bool} {d : Option Nat} {op : AOp} {rest : List AOper} : RunG (.tup []) b d op rest cb rd n Q ks E df H = RR cb rd n Q rest ks (updD E d (.tup [])) df H := (rfl)
theorem block_px (p : Int) (H : Heap) : pcx (cbL tab) 106 [.int .u64 p] H = some (.plain (.bool (decide (blockI p)))) := by
  refine pcx_N rfl (pc_wp (fi := c106) rfl rfl (by simp [c106]) (by decide) ?_)
  unfold c106
  by_cases h1 : 1 ≤ p
  · by_cases h2 : p < 2048
    · have h : blockI p := ⟨h1, by omega⟩
      simp (disch := omega) only [wk, avalE, aactE, evPE, boundE, asNat, bv_seql cellsEq_ii, bv_sneqd cellsEq_ii, readC, allOne, fillL, resE, tupled, ↓reduceIte, Nat.reduceEqDiff, Int.reduceEq, Int.reduceLT, Int.reduceLE, Nat.reduceAdd, Nat.reduceMul, Nat.reduceLT, Nat.reduceLeDiff, reduceCtorEq, lend, unown, h1, h2, h, purify, unownT, lend, unown, AV.hf]
    · have h : ¬ blockI p := fun h => h2 (by have := h.2; omega)
      simp (disch := omega) only [wk, avalE, aactE, evPE, boundE, asNat, bv_seql cellsEq_ii, bv_sneqd cellsEq_ii, readC, allOne, fillL, resE, tupled, ↓reduceIte, Nat.reduceEqDiff, Int.reduceEq, Int.reduceLT, Int.reduceLE, Nat.reduceAdd, Nat.reduceMul, Nat.reduceLT, Nat.reduceLeDiff, reduceCtorEq, lend, unown, h1, h2, h, purify, unownT, lend, unown, AV.hf]
  · have h : ¬ blockI p := fun h => h1 h.1
    simp (disch := omega) only [wk, avalE, aactE, evPE, boundE, asNat, bv_seql cellsEq_ii, bv_sneqd cellsEq_ii, readC, allOne, fillL, resE, tupled, ↓reduceIte, Nat.reduceEqDiff, Int.reduceEq, Int.reduceLT, Int.reduceLE, Nat.reduceAdd, Nat.reduceMul, Nat.reduceLT, Nat.reduceLeDiff, reduceCtorEq, lend, unown, h1, h, purify, unownT, lend, unown, AV.hf]
theorem in_96 {args : List AV} {H : Heap} {a o : Nat} : pcx (cbL tab) 96 (.ptr a o :: args) H = none := pcx_none rfl (pc_none (fi := c96) rfl rfl)
theorem in_97 {args : List AV} {H : Heap} {a o : Nat} : pcx (cbL tab) 97 (.ptr a o :: args) H = none := pcx_none rfl (pc_none (fi := c97) rfl rfl)
theorem in_99 {args : List AV} {H : Heap} {a o : Nat} : pcx (cbL tab) 99 (.ptr a o :: args) H = none := pcx_none rfl (pc_none (fi := c99) rfl rfl)
theorem in_100 {args : List AV} {H : Heap} {a o : Nat} : pcx (cbL tab) 100 (.ptr a o :: args) H = none := pcx_none rfl (pc_none (fi := c100) rfl rfl)
theorem in_102 {args : List AV} {H : Heap} {a o : Nat} : pcx (cbL tab) 102 (.ptr a o :: args) H = none := pcx_none rfl (pc_none (fi := c102) rfl rfl)
theorem in_103 {args : List AV} {H : Heap} {a o : Nat} : pcx (cbL tab) 103 (.ptr a o :: args) H = none := pcx_none rfl (pc_none (fi := c103) rfl rfl)
theorem in_105 {args : List AV} {H : Heap} {a o : Nat} : pcx (cbL tab) 105 (.ptr a o :: args) H = none := pcx_none rfl (pc_none (fi := c105) rfl rfl)
theorem in_107 {args : List AV} {H : Heap} {a o : Nat} : pcx (cbL tab) 107 (.ptr a o :: args) H = none := pcx_none rfl (pc_none (fi := c107) rfl rfl)
theorem in_109 {args : List AV} {H : Heap} {a o : Nat} : pcx (cbL tab) 109 (.ptr a o :: args) H = none := pcx_none rfl (pc_none (fi := c109) rfl rfl)
theorem in_110 {args : List AV} {H : Heap} {a o : Nat} : pcx (cbL tab) 110 (.ptr a o :: args) H = none := pcx_none rfl (pc_none (fi := c110) rfl rfl)
theorem ll_96 : (cbL tab).lent 96 = false := rfl
theorem ll_97 : (cbL tab).lent 97 = false := rfl
theorem ll_99 : (cbL tab).lent 99 = false := rfl
theorem ll_100 : (cbL tab).lent 100 = false := rfl
theorem ll_102 : (cbL tab).lent 102 = false := rfl
theorem ll_103 : (cbL tab).lent 103 = false := rfl
theorem ll_105 : (cbL tab).lent 105 = false := rfl
theorem ll_107 : (cbL tab).lent 107 = false := rfl
theorem ll_109 : (cbL tab).lent 109 = false := rfl
theorem ll_110 : (cbL tab).lent 110 = false := rfl
theorem ic_val {f : FuncId} {args : List AV} {H H1 : Heap} {v : AV} (h : ∃ o H', (cbL tab).ic f args H = some (o, H') ∧ o = .ret v ∧ H' = H1) : (cbL tab).ic f args H = some (.ret v, H1) := by
  obtain ⟨o, H', h1, rfl, rfl⟩ := h
  exact h1
theorem mark_ic (p : AV) (w : Int) (H : Heap) (hp : pcOn c96 [p, .int .u64 w] = false) : (cbL tab).ic 96 [p, .int .u64 w] H = some (.ret (.bool (decide (nmark ≤ w ∧ w ≤ nmark + 12))), H) := by
  refine ic_val (ic_wp (fi := c96) rfl hp (by simp [c96]) (by decide) ?_)
  unfold c96
  have e : nmark = 7522529147838689024 := rfl
  rw [e]
  by_cases h1 : (7522529147838689024 : Int) ≤ w
  · by_cases h2 : w ≤ 7522529147838689036
    · simp (disch := omega) only [wk, avalE, aactE, evPE, boundE, asNat, bv_seql cellsEq_ii, bv_sneqd cellsEq_ii, readC, allOne, fillL, resE, tupled, ↓reduceIte, Nat.reduceEqDiff, Int.reduceEq, Int.reduceLT, Int.reduceLE, Nat.reduceAdd, Nat.reduceMul, Nat.reduceLT, Nat.reduceLeDiff, reduceCtorEq, h1, h2, Int.reduceAdd]
    · simp (disch := omega) only [wk, avalE, aactE, evPE, boundE, asNat, bv_seql cellsEq_ii, bv_sneqd cellsEq_ii, readC, allOne, fillL, resE, tupled, ↓reduceIte, Nat.reduceEqDiff, Int.reduceEq, Int.reduceLT, Int.reduceLE, Nat.reduceAdd, Nat.reduceMul, Nat.reduceLT, Nat.reduceLeDiff, reduceCtorEq, h1, h2, and_false, Int.reduceAdd]
  · simp (disch := omega) only [wk, avalE, aactE, evPE, boundE, asNat, bv_seql cellsEq_ii, bv_sneqd cellsEq_ii, readC, allOne, fillL, resE, tupled, ↓reduceIte, Nat.reduceEqDiff, Int.reduceEq, Int.reduceLT, Int.reduceLE, Nat.reduceAdd, Nat.reduceMul, Nat.reduceLT, Nat.reduceLeDiff, reduceCtorEq, h1, false_and]
theorem sib_ic (p : AV) (w : Int) (H : Heap) (hp : pcOn c99 [p, .int .u64 w] = false) : (cbL tab).ic 99 [p, .int .u64 w] H = some (.ret (.bool (decide (w ≤ 2047))), H) := by
  refine ic_val (ic_wp (fi := c99) rfl hp (by simp [c99]) (by decide) ?_)
  unfold c99
  by_cases h1 : w ≤ 2047
  · have h2 : w < 2048 := by omega
    simp (disch := omega) only [wk, avalE, aactE, evPE, boundE, asNat, bv_seql cellsEq_ii, bv_sneqd cellsEq_ii, readC, allOne, fillL, resE, tupled, ↓reduceIte, Nat.reduceEqDiff, Int.reduceEq, Int.reduceLT, Int.reduceLE, Nat.reduceAdd, Nat.reduceMul, Nat.reduceLT, Nat.reduceLeDiff, reduceCtorEq, h1, h2]
  · have h2 : ¬ w < 2048 := by omega
    simp (disch := omega) only [wk, avalE, aactE, evPE, boundE, asNat, bv_seql cellsEq_ii, bv_sneqd cellsEq_ii, readC, allOne, fillL, resE, tupled, ↓reduceIte, Nat.reduceEqDiff, Int.reduceEq, Int.reduceLT, Int.reduceLE, Nat.reduceAdd, Nat.reduceMul, Nat.reduceLT, Nat.reduceLeDiff, reduceCtorEq, h1, h2]
theorem low_ic (p : AV) (w : Int) (H : Heap) (hp : pcOn c102 [p, .int .u64 w] = false) : (cbL tab).ic 102 [p, .int .u64 w] H = some (.ret (.bool true), H) := by
  refine ic_val (ic_wp (fi := c102) rfl hp (by simp [c102]) (by decide) ?_)
  unfold c102
  simp (disch := omega) only [wk, avalE, aactE, evPE, boundE, asNat, bv_seql cellsEq_ii, bv_sneqd cellsEq_ii, readC, allOne, fillL, resE, tupled, ↓reduceIte, Nat.reduceEqDiff, Int.reduceEq, Int.reduceLT, Int.reduceLE, Nat.reduceAdd, Nat.reduceMul, Nat.reduceLT, Nat.reduceLeDiff, reduceCtorEq]
theorem way_ic (p : AV) (w : Int) (H : Heap) (hp : pcOn c109 [p, .int .u64 w] = false) : (cbL tab).ic 109 [p, .int .u64 w] H = some (.ret (.bool (decide (w ≤ 2))), H) := by
  refine ic_val (ic_wp (fi := c109) rfl hp (by simp [c109]) (by decide) ?_)
  unfold c109
  by_cases h1 : w ≤ 2
  · simp (disch := omega) only [wk, avalE, aactE, evPE, boundE, asNat, bv_seql cellsEq_ii, bv_sneqd cellsEq_ii, readC, allOne, fillL, resE, tupled, ↓reduceIte, Nat.reduceEqDiff, Int.reduceEq, Int.reduceLT, Int.reduceLE, Nat.reduceAdd, Nat.reduceMul, Nat.reduceLT, Nat.reduceLeDiff, reduceCtorEq, h1]
  · simp (disch := omega) only [wk, avalE, aactE, evPE, boundE, asNat, bv_seql cellsEq_ii, bv_sneqd cellsEq_ii, readC, allOne, fillL, resE, tupled, ↓reduceIte, Nat.reduceEqDiff, Int.reduceEq, Int.reduceLT, Int.reduceLE, Nat.reduceAdd, Nat.reduceMul, Nat.reduceLT, Nat.reduceLeDiff, reduceCtorEq, h1]
theorem left_ic (a : Nat) (v : Int) (r : List AV) (w : Int) (H : Heap) (hv : 0 ≤ v) (h : H[a]? = some (.cells (.int .i64 v :: r))) : (cbL tab).ic 105 [.ptr a 0, .int .u64 w] H = some (.ret (.bool (decide (if v = 0 then w = leafL else blockI w))), H) := by
  refine ic_val (ic_wp (fi := c105) rfl rfl (by simp [c105]) (by decide) ?_)
  unfold c105
  have e : leafL = 9223372036854775808 := rfl
  rw [e]
  have b := block_px
  by_cases h1 : v = 0
  · subst h1
    by_cases h2 : w = 9223372036854775808
    · simp (disch := omega) only [wk, avalE, aactE, evPE, boundE, asNat, bv_seql cellsEq_ii, bv_sneqd cellsEq_ii, readC, allOne, fillL, resE, tupled, ↓reduceIte, Nat.reduceEqDiff, Int.reduceEq, Int.reduceLT, Int.reduceLE, Nat.reduceAdd, Nat.reduceMul, Nat.reduceLT, Nat.reduceLeDiff, reduceCtorEq, runG_un, h, h2]
    · simp (disch := omega) only [wk, avalE, aactE, evPE, boundE, asNat, bv_seql cellsEq_ii, bv_sneqd cellsEq_ii, readC, allOne, fillL, resE, tupled, ↓reduceIte, Nat.reduceEqDiff, Int.reduceEq, Int.reduceLT, Int.reduceLE, Nat.reduceAdd, Nat.reduceMul, Nat.reduceLT, Nat.reduceLeDiff, reduceCtorEq, runG_un, h, h2]
  · have h3 : v > 0 := by omega
    simp (disch := omega) only [wk, avalE, aactE, evPE, boundE, asNat, bv_seql cellsEq_ii, bv_sneqd cellsEq_ii, readC, allOne, fillL, resE, tupled, ↓reduceIte, Nat.reduceEqDiff, Int.reduceEq, Int.reduceLT, Int.reduceLE, Nat.reduceAdd, Nat.reduceMul, Nat.reduceLT, Nat.reduceLeDiff, reduceCtorEq, runG_un, h, h1, h3, b]
theorem putm_ic (a : Nat) (c0 c1 c2 c3 c4 c5 : AV) (w : Int) (H : Heap) (hw : nmark ≤ w) (hw2 : w ≤ nmark + 12) (h : H[a]? = some (.cells [c0, c1, c2, c3, c4, c5])) : (cbL tab).ic 97 [.ptr a 0, .int .u64 w] H = some (.ret (.tup []), H.set a (.cells [.int .i64 (w - nmark), c1, c2, c3, c4, c5])) := by
  refine ic_val (ic_wp (fi := c97) rfl rfl (by simp [c97]) (by decide) ?_)
  unfold c97
  have e : nmark = 7522529147838689024 := rfl
  rw [e] at hw hw2 ⊢
  simp (disch := omega) only [wk, avalE, aactE, evPE, boundE, asNat, bv_seql cellsEq_ii, bv_sneqd cellsEq_ii, readC, allOne, fillL, resE, tupled, ↓reduceIte, Nat.reduceEqDiff, Int.reduceEq, Int.reduceLT, Int.reduceLE, Nat.reduceAdd, Nat.reduceMul, Nat.reduceLT, Nat.reduceLeDiff, reduceCtorEq, h]
theorem puts_ic (a : Nat) (c0 c1 c2 c3 c4 c5 : AV) (w : Int) (H : Heap) (hw : 0 ≤ w) (hw2 : w ≤ 2047) (h : H[a]? = some (.cells [c0, c1, c2, c3, c4, c5])) : (cbL tab).ic 100 [.ptr a 0, .int .u64 w] H = some (.ret (.tup []), H.set a (.cells [c0, .int .i64 w, c2, c3, c4, c5])) := by
  refine ic_val (ic_wp (fi := c100) rfl rfl (by simp [c100]) (by decide) ?_)
  unfold c100
  simp (disch := omega) only [wk, avalE, aactE, evPE, boundE, asNat, bv_seql cellsEq_ii, bv_sneqd cellsEq_ii, readC, allOne, fillL, resE, tupled, ↓reduceIte, Nat.reduceEqDiff, Int.reduceEq, Int.reduceLT, Int.reduceLE, Nat.reduceAdd, Nat.reduceMul, Nat.reduceLT, Nat.reduceLeDiff, reduceCtorEq, h]
theorem putl_ic (a : Nat) (c0 c1 c2 c3 c4 c5 : AV) (w : Int) (H : Heap) (h : H[a]? = some (.cells [c0, c1, c2, c3, c4, c5])) : (cbL tab).ic 103 [.ptr a 0, .int .u64 w] H = some (.ret (.tup []), H.set a (.cells [c0, c1, .int .u64 w, c3, c4, c5])) := by
  refine ic_val (ic_wp (fi := c103) rfl rfl (by simp [c103]) (by decide) ?_)
  unfold c103
  simp (disch := omega) only [wk, avalE, aactE, evPE, boundE, asNat, bv_seql cellsEq_ii, bv_sneqd cellsEq_ii, readC, allOne, fillL, resE, tupled, ↓reduceIte, Nat.reduceEqDiff, Int.reduceEq, Int.reduceLT, Int.reduceLE, Nat.reduceAdd, Nat.reduceMul, Nat.reduceLT, Nat.reduceLeDiff, reduceCtorEq, h]
theorem putf_ic (a : Nat) (c0 c1 c2 c3 c4 c5 : AV) (w : Int) (H : Heap) (h : H[a]? = some (.cells [c0, c1, c2, c3, c4, c5])) : (cbL tab).ic 107 [.ptr a 0, .int .u64 w] H = some (.ret (.tup []), H.set a (.cells [c0, c1, c2, .int .u64 w, c4, c5])) := by
  refine ic_val (ic_wp (fi := c107) rfl rfl (by simp [c107]) (by decide) ?_)
  unfold c107
  simp (disch := omega) only [wk, avalE, aactE, evPE, boundE, asNat, bv_seql cellsEq_ii, bv_sneqd cellsEq_ii, readC, allOne, fillL, resE, tupled, ↓reduceIte, Nat.reduceEqDiff, Int.reduceEq, Int.reduceLT, Int.reduceLE, Nat.reduceAdd, Nat.reduceMul, Nat.reduceLT, Nat.reduceLeDiff, reduceCtorEq, h]
theorem puty_ic (a : Nat) (c0 c1 c2 c3 c4 c5 : AV) (w : Int) (H : Heap) (hw : 0 ≤ w) (hw2 : w ≤ 2) (h : H[a]? = some (.cells [c0, c1, c2, c3, c4, c5])) : (cbL tab).ic 110 [.ptr a 0, .int .u64 w] H = some (.ret (.tup []), H.set a (.cells [c0, c1, c2, c3, .int .i64 w, c5])) := by
  refine ic_val (ic_wp (fi := c110) rfl rfl (by simp [c110]) (by decide) ?_)
  unfold c110
  simp (disch := omega) only [wk, avalE, aactE, evPE, boundE, asNat, bv_seql cellsEq_ii, bv_sneqd cellsEq_ii, readC, allOne, fillL, resE, tupled, ↓reduceIte, Nat.reduceEqDiff, Int.reduceEq, Int.reduceLT, Int.reduceLE, Nat.reduceAdd, Nat.reduceMul, Nat.reduceLT, Nat.reduceLeDiff, reduceCtorEq, h]
theorem nz_px (x : Int) (H : Heap) : pcx (cbL tab) 62 [.int .u64 x] H = some (.plain (.bool (decide (x ≠ 0)))) := by
  refine pcx_N rfl (pc_wp (fi := c62) rfl rfl (by simp [c62]) (by decide) ?_)
  unfold c62
  by_cases h : x = 0
  · simp (disch := omega) only [wk, avalE, aactE, evPE, boundE, asNat, bv_seql cellsEq_ii, bv_sneqd cellsEq_ii, readC, allOne, fillL, resE, tupled, ↓reduceIte, Nat.reduceEqDiff, Int.reduceEq, Int.reduceLT, Int.reduceLE, Nat.reduceAdd, Nat.reduceMul, Nat.reduceLT, Nat.reduceLeDiff, reduceCtorEq, lend, unown, h, purify, unownT, lend, unown, AV.hf]
  · simp (disch := omega) only [wk, avalE, aactE, evPE, boundE, asNat, bv_seql cellsEq_ii, bv_sneqd cellsEq_ii, readC, allOne, fillL, resE, tupled, ↓reduceIte, Nat.reduceEqDiff, Int.reduceEq, Int.reduceLT, Int.reduceLE, Nat.reduceAdd, Nat.reduceMul, Nat.reduceLT, Nat.reduceLeDiff, reduceCtorEq, lend, unown, h, purify, unownT, lend, unown, AV.hf]
theorem spare_px (a b c : Int) (rest : List AV) (tk : Tk) (H : Heap) (hr : hfL rest = true) : pcx (cbL tab) 61 [.sl 1 3 (.int .u64 a :: .int .u64 b :: .int .u64 c :: rest) tk, .fn 62 []] H = some (.plain (.bool (decide (¬ (a = 0 ∧ b = 0 ∧ c = 0))))) := by
  have key : ∀ (H : Heap) (u : Tk), u.hf = true → pcx (cbL tab) 95 [.sl 1 3 (.int .u64 a :: .int .u64 b :: .int .u64 c :: rest) u, .fn 62 []] H = some (.plain (.int .i64 (if a ≠ 0 then 0 else if b ≠ 0 then 1 else if c ≠ 0 then 2 else -1))) := by
    intro H u hu
    obtain ⟨u1, e1, f1⟩ := lend_sl 1 3 (.int .u64 a :: .int .u64 b :: .int .u64 c :: rest) u
    refine pcx_N rfl (pc_wp (fi := c95) rfl ?_ (by simp [c95]) (by decide) ?_)
    · simp only [pcOn, List.map_cons, List.map_nil, hfL, hf_lend_sl, hf_lend_int, hf_lend_bool, hf_lend_str, hfL_append, Bool.and_self, Bool.and_true, Bool.true_and, c95, hr]; simp [hfL, AV.hf, hr, lend, unown]
    unfold c95
    rw [List.map_cons, List.map_cons, List.map_nil, e1]
    have nz := nz_px
    simp (disch := omega) only [wk, avalE, aactE, evPE, boundE, asNat, bv_seql cellsEq_ii, bv_sneqd cellsEq_ii, readC, allOne, fillL, resE, tupled, ↓reduceIte, Nat.reduceEqDiff, Int.reduceEq, Int.reduceLT, Int.reduceLE, Nat.reduceAdd, Nat.reduceMul, Nat.reduceLT, Nat.reduceLeDiff, reduceCtorEq, lend, unown, List.map_nil]
    rw [ret_loop]
    by_cases ha : a = 0
    case neg =>
      simp (disch := omega) only [wk, avalE, aactE, evPE, boundE, asNat, bv_seql cellsEq_ii, bv_sneqd cellsEq_ii, readC, allOne, fillL, resE, tupled, ↓reduceIte, Nat.reduceEqDiff, Int.reduceEq, Int.reduceLT, Int.reduceLE, Nat.reduceAdd, Nat.reduceMul, Nat.reduceLT, Nat.reduceLeDiff, reduceCtorEq, Int.reduceToNat, Int.reduceAdd, nz, ha, purify, unownT, lend, unown, AV.hf]
    simp (disch := omega) only [wk, avalE, aactE, evPE, boundE, asNat, bv_seql cellsEq_ii, bv_sneqd cellsEq_ii, readC, allOne, fillL, resE, tupled, ↓reduceIte, Nat.reduceEqDiff, Int.reduceEq, Int.reduceLT, Int.reduceLE, Nat.reduceAdd, Nat.reduceMul, Nat.reduceLT, Nat.reduceLeDiff, reduceCtorEq, Int.reduceToNat, Int.reduceAdd, nz, ha]
    refine ret_again (by decide) (.inl rfl) ?_
    rw [ret_loop]
    by_cases hb : b = 0
    case neg =>
      simp (disch := omega) only [wk, avalE, aactE, evPE, boundE, asNat, bv_seql cellsEq_ii, bv_sneqd cellsEq_ii, readC, allOne, fillL, resE, tupled, ↓reduceIte, Nat.reduceEqDiff, Int.reduceEq, Int.reduceLT, Int.reduceLE, Nat.reduceAdd, Nat.reduceMul, Nat.reduceLT, Nat.reduceLeDiff, reduceCtorEq, Int.reduceToNat, Int.reduceAdd, nz, hb, purify, unownT, lend, unown, AV.hf]
    simp (disch := omega) only [wk, avalE, aactE, evPE, boundE, asNat, bv_seql cellsEq_ii, bv_sneqd cellsEq_ii, readC, allOne, fillL, resE, tupled, ↓reduceIte, Nat.reduceEqDiff, Int.reduceEq, Int.reduceLT, Int.reduceLE, Nat.reduceAdd, Nat.reduceMul, Nat.reduceLT, Nat.reduceLeDiff, reduceCtorEq, Int.reduceToNat, Int.reduceAdd, nz, hb]
    refine ret_again (by decide) (.inl rfl) ?_
    rw [ret_loop]
    by_cases hc : c = 0
    case neg =>
      simp (disch := omega) only [wk, avalE, aactE, evPE, boundE, asNat, bv_seql cellsEq_ii, bv_sneqd cellsEq_ii, readC, allOne, fillL, resE, tupled, ↓reduceIte, Nat.reduceEqDiff, Int.reduceEq, Int.reduceLT, Int.reduceLE, Nat.reduceAdd, Nat.reduceMul, Nat.reduceLT, Nat.reduceLeDiff, reduceCtorEq, Int.reduceToNat, Int.reduceAdd, nz, hc, purify, unownT, lend, unown, AV.hf]
    simp (disch := omega) only [wk, avalE, aactE, evPE, boundE, asNat, bv_seql cellsEq_ii, bv_sneqd cellsEq_ii, readC, allOne, fillL, resE, tupled, ↓reduceIte, Nat.reduceEqDiff, Int.reduceEq, Int.reduceLT, Int.reduceLE, Nat.reduceAdd, Nat.reduceMul, Nat.reduceLT, Nat.reduceLeDiff, reduceCtorEq, Int.reduceToNat, Int.reduceAdd, nz, hc]
    refine ret_again (by decide) (.inl rfl) ?_
    rw [ret_loop]
    simp (disch := omega) only [wk, avalE, aactE, evPE, boundE, asNat, bv_seql cellsEq_ii, bv_sneqd cellsEq_ii, readC, allOne, fillL, resE, tupled, ↓reduceIte, Nat.reduceEqDiff, Int.reduceEq, Int.reduceLT, Int.reduceLE, Nat.reduceAdd, Nat.reduceMul, Nat.reduceLT, Nat.reduceLeDiff, reduceCtorEq, purify, unownT, lend, unown, AV.hf]
  obtain ⟨u1, e1, f1⟩ := lend_sl 1 3 (.int .u64 a :: .int .u64 b :: .int .u64 c :: rest) tk
  refine pcx_N rfl (pc_wp (fi := c61) rfl ?_ (by simp [c61]) (by decide) ?_)
  · simp only [pcOn, List.map_cons, List.map_nil, hfL, hf_lend_sl, hf_lend_int, hf_lend_bool, hf_lend_str, hfL_append, Bool.and_self, Bool.and_true, Bool.true_and, c61, hr]; simp [hfL, AV.hf, hr, lend, unown]
  unfold c61
  have k1 := fun H => key H u1 f1
  rw [List.map_cons, List.map_cons, List.map_nil, e1]
  by_cases ha : a = 0
  · by_cases hb : b = 0
    · by_cases hc : c = 0
      · simp only [ha, hb, hc, ne_eq, not_true_eq_false, if_false] at k1
        simp (disch := omega) only [wk, avalE, aactE, evPE, boundE, asNat, bv_seql cellsEq_ii, bv_sneqd cellsEq_ii, readC, allOne, fillL, resE, tupled, ↓reduceIte, Nat.reduceEqDiff, Int.reduceEq, Int.reduceLT, Int.reduceLE, Nat.reduceAdd, Nat.reduceMul, Nat.reduceLT, Nat.reduceLeDiff, reduceCtorEq, lend, unown, List.map_nil, k1, ha, hb, hc, purify, unownT, lend, unown, AV.hf]
      · simp only [ha, hb, hc, ne_eq, not_true_eq_false, not_false_eq_true, if_true, if_false] at k1
        simp (disch := omega) only [wk, avalE, aactE, evPE, boundE, asNat, bv_seql cellsEq_ii, bv_sneqd cellsEq_ii, readC, allOne, fillL, resE, tupled, ↓reduceIte, Nat.reduceEqDiff, Int.reduceEq, Int.reduceLT, Int.reduceLE, Nat.reduceAdd, Nat.reduceMul, Nat.reduceLT, Nat.reduceLeDiff, reduceCtorEq, lend, unown, List.map_nil, k1, ha, hb, hc, purify, unownT, lend, unown, AV.hf, and_false]
    · simp only [ha, hb, ne_eq, not_true_eq_false, not_false_eq_true, if_true, if_false] at k1
      simp (disch := omega) only [wk, avalE, aactE, evPE, boundE, asNat, bv_seql cellsEq_ii, bv_sneqd cellsEq_ii, readC, allOne, fillL, resE, tupled, ↓reduceIte, Nat.reduceEqDiff, Int.reduceEq, Int.reduceLT, Int.reduceLE, Nat.reduceAdd, Nat.reduceMul, Nat.reduceLT, Nat.reduceLeDiff, reduceCtorEq, lend, unown, List.map_nil, k1, ha, hb, purify, unownT, lend, unown, AV.hf, false_and, and_false]
  · simp only [ha, ne_eq, not_false_eq_true, if_true] at k1
    simp (disch := omega) only [wk, avalE, aactE, evPE, boundE, asNat, bv_seql cellsEq_ii, bv_sneqd cellsEq_ii, readC, allOne, fillL, resE, tupled, ↓reduceIte, Nat.reduceEqDiff, Int.reduceEq, Int.reduceLT, Int.reduceLE, Nat.reduceAdd, Nat.reduceMul, Nat.reduceLT, Nat.reduceLeDiff, reduceCtorEq, lend, unown, List.map_nil, k1, ha, purify, unownT, lend, unown, AV.hf, false_and]
/-- The parts of a head. -/
def partsA : List AV := [.fn 96 [], .fn 97 [], .fn 98 [], .fn 99 [], .fn 100 [], .fn 101 [], .fn 102 [], .fn 103 [], .fn 104 [], .fn 105 [], .fn 107 [], .fn 108 [], .fn 109 [], .fn 110 [], .fn 111 []]
theorem parts_px (H : Heap) : pcx (cbL tab) 63 [] H = some (.plain (.sl 3 5 partsA .ro)) := by
  refine pcx_N rfl (pc_wp (fi := c63) rfl rfl (by simp [c63]) (by decide) ?_)
  unfold c63
  simp (disch := omega) only [wk, avalE, aactE, evPE, boundE, asNat, bv_seql cellsEq_ii, bv_sneqd cellsEq_ii, readC, allOne, fillL, resE, tupled, ↓reduceIte, Nat.reduceEqDiff, Int.reduceEq, Int.reduceLT, Int.reduceLE, Nat.reduceAdd, Nat.reduceMul, Nat.reduceLT, Nat.reduceLeDiff, reduceCtorEq, purify, unownT, lend, unown, AV.hf, partsA, Tk.hf, hfL]
theorem of_len (n : Nat) (cs : List AV) (tk : Tk) (H : Heap) (hn : (n : Int) ≤ 9223372036854775807) (hc : hfL cs = true) (h : n ≠ 64) : pcx (cbL tab) 29 [.sl 1 n cs tk] H = some (.plain (.tup [nd0.av, .int .i64 210])) := by
  obtain ⟨u1, e1, f1⟩ := lend_sl 1 n cs tk
  refine pcx_N rfl (pc_wp (fi := c29) rfl ?_ (by simp [c29]) (by decide) ?_)
  · simp only [pcOn, List.map_cons, List.map_nil, hfL, hf_lend_sl, hf_lend_int, hf_lend_bool, hf_lend_str, hfL_append, Bool.and_self, Bool.and_true, Bool.true_and, c29, hc]
  unfold c29
  rw [List.map_cons, List.map_nil, e1]
  have h' : ¬ (n : Int) = 64 := by omega
  simp (disch := omega) only [wk, avalE, aactE, evPE, boundE, asNat, bv_seql cellsEq_ii, bv_sneqd cellsEq_ii, readC, allOne, fillL, resE, tupled, ↓reduceIte, Nat.reduceEqDiff, Int.reduceEq, Int.reduceLT, Int.reduceLE, Nat.reduceAdd, Nat.reduceMul, Nat.reduceLT, Nat.reduceLeDiff, reduceCtorEq, h']
  rw [ret_scp_goto rfl]
  refine ret_again (by decide) (.inl rfl) ?_
  simp (disch := omega) only [wk, avalE, aactE, evPE, boundE, asNat, bv_seql cellsEq_ii, bv_sneqd cellsEq_ii, readC, allOne, fillL, resE, tupled, ↓reduceIte, Nat.reduceEqDiff, Int.reduceEq, Int.reduceLT, Int.reduceLE, Nat.reduceAdd, Nat.reduceMul, Nat.reduceLT, Nat.reduceLeDiff, reduceCtorEq, nd0_av, purify, unownT, lend, unown, AV.hf, hfL, Tk.hf]
theorem of_words (h : Hd) (hu : h.u) (ps : List (Int × Int)) (hp : ps.length = 28) (rest : List AV) (tk : Tk) (H : Heap) (hc : hfL rest = true) :
    pcx (cbL tab) 29 [.sl 1 64 (wordsA h ps rest) tk] H = some (.plain (.tup [if h.ok then (ndOf h ps).av else nd0.av, .int .i64 (if h.ok then 0 else 210)])) := by
  have hcs := hf_words h ps rest hc
  obtain ⟨u1, e1, f1⟩ := lend_sl 1 64 (wordsA h ps rest) tk
  refine pcx_N rfl (pc_wp (fi := c29) rfl ?_ (by simp [c29]) (by decide) ?_)
  · simp only [pcOn, List.map_cons, List.map_nil, hfL, hf_lend_sl, hf_lend_int, hf_lend_bool, hf_lend_str, hfL_append, Bool.and_self, Bool.and_true, Bool.true_and, c29, hcs]
  unfold c29
  rw [List.map_cons, List.map_nil, e1]
  have hcr : hfL (encs pairA ps ++ rest) = true := by rw [hfL_append, hf_pairA, hc]; rfl
  have lw : 56 ≤ (encs pairA ps ++ rest).length := by rw [List.length_append, encs_length (f := pairA) (k := 2), hp]; omega
  have rp : ∀ f, f ≠ 0 → ∀ H, pcx (cbL tab) 64 [.int .u64 f, .sl 1 56 (encs pairA ps ++ rest) .ro] H = some (prRow 2 pairA (rdL f ps)) := fun f hf H => by
    have := slotsread f ps rest .ro hc ⟨hf, by omega, by omega, by omega⟩
    rw [row, hp] at this
    exact pcx_N rfl this
  obtain ⟨m, s, l, f, y, a, b, c⟩ := h
  obtain ⟨hum, hus, hul, huf, huy⟩ := hu
  dsimp only at hum hus hul huf huy
  simp only [wordsA, Hd.cells, List.cons_append, List.nil_append, ndOf]
  generalize hW : encs pairA ps ++ rest = W at *
  have sp := fun u H => spare_px a b c W u H hcr
  have pp := parts_px
  have em : nmark = 7522529147838689024 := rfl
  by_cases hab : a = 0 ∧ b = 0 ∧ c = 0
  case neg =>
    have hn : ¬ (Hd.mk m s l f y a b c).ok := fun k => hab k.2.2.2.2.2
    simp (disch := omega) only [wk, avalE, aactE, evPE, boundE, asNat, bv_seql cellsEq_ii, bv_sneqd cellsEq_ii, readC, allOne, fillL, resE, tupled, ↓reduceIte, Nat.reduceEqDiff, Int.reduceEq, Int.reduceLT, Int.reduceLE, Nat.reduceAdd, Nat.reduceMul, Nat.reduceLT, Nat.reduceLeDiff, reduceCtorEq, Int.reduceToNat, Int.reduceAdd, Int.reduceSub, Int.reduceMul, Int.reduceNeg, Nat.reduceSub, Nat.reduceDiv, sp, hab, hn]
    rw [ret_scp_goto rfl]
    refine ret_again (by decide) (.inl rfl) ?_
    simp (disch := omega) only [wk, avalE, aactE, evPE, boundE, asNat, bv_seql cellsEq_ii, bv_sneqd cellsEq_ii, readC, allOne, fillL, resE, tupled, ↓reduceIte, Nat.reduceEqDiff, Int.reduceEq, Int.reduceLT, Int.reduceLE, Nat.reduceAdd, Nat.reduceMul, Nat.reduceLT, Nat.reduceLeDiff, reduceCtorEq, nd0_av, hn, purify, unownT, lend, unown, AV.hf, hfL, Tk.hf]
  obtain ⟨rfl, rfl, rfl⟩ := hab
  simp (disch := omega) only [wk, avalE, aactE, evPE, boundE, asNat, bv_seql cellsEq_ii, bv_sneqd cellsEq_ii, readC, allOne, fillL, resE, tupled, ↓reduceIte, Nat.reduceEqDiff, Int.reduceEq, Int.reduceLT, Int.reduceLE, Nat.reduceAdd, Nat.reduceMul, Nat.reduceLT, Nat.reduceLeDiff, reduceCtorEq, Int.reduceToNat, Int.reduceAdd, Int.reduceSub, Int.reduceMul, Int.reduceNeg, Nat.reduceSub, Nat.reduceDiv, sp, pp]
  rw [ret_loop]
  have i96 := fun H => mark_ic (.ptr 0 0) m H rfl
  by_cases hm : nmark ≤ m ∧ m ≤ nmark + 12
  case neg =>
    have hn : ¬ (Hd.mk m s l f y 0 0 0).ok := fun k => hm ⟨k.1, k.2.1⟩
    simp (disch := omega) only [wk, avalE, aactE, evPE, boundE, asNat, bv_seql cellsEq_ii, bv_sneqd cellsEq_ii, readC, allOne, fillL, resE, tupled, ↓reduceIte, Nat.reduceEqDiff, Int.reduceEq, Int.reduceLT, Int.reduceLE, Nat.reduceAdd, Nat.reduceMul, Nat.reduceLT, Nat.reduceLeDiff, reduceCtorEq, partsA, Int.reduceToNat, Int.reduceAdd, Int.reduceSub, Int.reduceMul, Int.reduceNeg, Nat.reduceSub, Nat.reduceDiv, in_96, runE_none ll_96, i96, hm]
    rw [ret_scp_goto rfl]
    refine ret_again (by decide) (.inl rfl) ?_
    simp (disch := omega) only [wk, avalE, aactE, evPE, boundE, asNat, bv_seql cellsEq_ii, bv_sneqd cellsEq_ii, readC, allOne, fillL, resE, tupled, ↓reduceIte, Nat.reduceEqDiff, Int.reduceEq, Int.reduceLT, Int.reduceLE, Nat.reduceAdd, Nat.reduceMul, Nat.reduceLT, Nat.reduceLeDiff, reduceCtorEq, nd0_av, hn, purify, unownT, lend, unown, AV.hf, hfL, Tk.hf]
  have p97 := fun (T : Heap) c0 c1 c2 c3 c4 c5 => putm_ic 0 c0 c1 c2 c3 c4 c5 m (.cells [c0, c1, c2, c3, c4, c5] :: T) hm.1 hm.2 rfl
  simp (disch := omega) only [wk, avalE, aactE, evPE, boundE, asNat, bv_seql cellsEq_ii, bv_sneqd cellsEq_ii, readC, allOne, fillL, resE, tupled, ↓reduceIte, Nat.reduceEqDiff, Int.reduceEq, Int.reduceLT, Int.reduceLE, Nat.reduceAdd, Nat.reduceMul, Nat.reduceLT, Nat.reduceLeDiff, reduceCtorEq, partsA, Int.reduceToNat, Int.reduceAdd, Int.reduceSub, Int.reduceMul, Int.reduceNeg, Nat.reduceSub, Nat.reduceDiv, in_96, runE_none ll_96, i96, hm, in_97, runE_none ll_97, p97]
  refine ret_again (by decide) (.inl rfl) ?_
  rw [ret_loop]
  have i99 := fun H => sib_ic (.ptr 0 0) s H rfl
  by_cases hs : s ≤ 2047
  case neg =>
    have hn : ¬ (Hd.mk m s l f y 0 0 0).ok := fun k => hs k.2.2.1
    simp (disch := omega) only [wk, avalE, aactE, evPE, boundE, asNat, bv_seql cellsEq_ii, bv_sneqd cellsEq_ii, readC, allOne, fillL, resE, tupled, ↓reduceIte, Nat.reduceEqDiff, Int.reduceEq, Int.reduceLT, Int.reduceLE, Nat.reduceAdd, Nat.reduceMul, Nat.reduceLT, Nat.reduceLeDiff, reduceCtorEq, partsA, Int.reduceToNat, Int.reduceAdd, Int.reduceSub, Int.reduceMul, Int.reduceNeg, Nat.reduceSub, Nat.reduceDiv, in_99, runE_none ll_99, i99, hs]
    rw [ret_scp_goto rfl]
    refine ret_again (by decide) (.inl rfl) ?_
    simp (disch := omega) only [wk, avalE, aactE, evPE, boundE, asNat, bv_seql cellsEq_ii, bv_sneqd cellsEq_ii, readC, allOne, fillL, resE, tupled, ↓reduceIte, Nat.reduceEqDiff, Int.reduceEq, Int.reduceLT, Int.reduceLE, Nat.reduceAdd, Nat.reduceMul, Nat.reduceLT, Nat.reduceLeDiff, reduceCtorEq, nd0_av, hn, purify, unownT, lend, unown, AV.hf, hfL, Tk.hf]
  have p100 := fun (T : Heap) c0 c1 c2 c3 c4 c5 => puts_ic 0 c0 c1 c2 c3 c4 c5 s (.cells [c0, c1, c2, c3, c4, c5] :: T) hus.1 hs rfl
  simp (disch := omega) only [wk, avalE, aactE, evPE, boundE, asNat, bv_seql cellsEq_ii, bv_sneqd cellsEq_ii, readC, allOne, fillL, resE, tupled, ↓reduceIte, Nat.reduceEqDiff, Int.reduceEq, Int.reduceLT, Int.reduceLE, Nat.reduceAdd, Nat.reduceMul, Nat.reduceLT, Nat.reduceLeDiff, reduceCtorEq, partsA, Int.reduceToNat, Int.reduceAdd, Int.reduceSub, Int.reduceMul, Int.reduceNeg, Nat.reduceSub, Nat.reduceDiv, in_99, runE_none ll_99, i99, hs, in_100, runE_none ll_100, p100]
  refine ret_again (by decide) (.inl rfl) ?_
  rw [ret_loop]
  have i102 := fun H => low_ic (.ptr 0 0) l H rfl
  have p103 := fun (T : Heap) c0 c1 c2 c3 c4 c5 => putl_ic 0 c0 c1 c2 c3 c4 c5 l (.cells [c0, c1, c2, c3, c4, c5] :: T) rfl
  simp (disch := omega) only [wk, avalE, aactE, evPE, boundE, asNat, bv_seql cellsEq_ii, bv_sneqd cellsEq_ii, readC, allOne, fillL, resE, tupled, ↓reduceIte, Nat.reduceEqDiff, Int.reduceEq, Int.reduceLT, Int.reduceLE, Nat.reduceAdd, Nat.reduceMul, Nat.reduceLT, Nat.reduceLeDiff, reduceCtorEq, partsA, Int.reduceToNat, Int.reduceAdd, Int.reduceSub, Int.reduceMul, Int.reduceNeg, Nat.reduceSub, Nat.reduceDiv, in_102, runE_none ll_102, i102, in_103, runE_none ll_103, p103]
  refine ret_again (by decide) (.inl rfl) ?_
  rw [ret_loop]
  have i105 := fun (T : Heap) r => left_ic 0 (m - nmark) r f (.cells (.int .i64 (m - nmark) :: r) :: T) (by omega) rfl
  have hmk : m - nmark = 0 ↔ m = nmark := by omega
  by_cases hf : if m = nmark then f = leafL else blockI f
  case neg =>
    have hn : ¬ (Hd.mk m s l f y 0 0 0).ok := fun k => hf k.2.2.2.1
    simp only [hmk, hf, decide_false] at i105
    simp (disch := omega) only [wk, avalE, aactE, evPE, boundE, asNat, bv_seql cellsEq_ii, bv_sneqd cellsEq_ii, readC, allOne, fillL, resE, tupled, ↓reduceIte, Nat.reduceEqDiff, Int.reduceEq, Int.reduceLT, Int.reduceLE, Nat.reduceAdd, Nat.reduceMul, Nat.reduceLT, Nat.reduceLeDiff, reduceCtorEq, partsA, Int.reduceToNat, Int.reduceAdd, Int.reduceSub, Int.reduceMul, Int.reduceNeg, Nat.reduceSub, Nat.reduceDiv, in_105, runE_none ll_105, i105]
    rw [ret_scp_goto rfl]
    refine ret_again (by decide) (.inl rfl) ?_
    simp (disch := omega) only [wk, avalE, aactE, evPE, boundE, asNat, bv_seql cellsEq_ii, bv_sneqd cellsEq_ii, readC, allOne, fillL, resE, tupled, ↓reduceIte, Nat.reduceEqDiff, Int.reduceEq, Int.reduceLT, Int.reduceLE, Nat.reduceAdd, Nat.reduceMul, Nat.reduceLT, Nat.reduceLeDiff, reduceCtorEq, nd0_av, hn, purify, unownT, lend, unown, AV.hf, hfL, Tk.hf]
  simp only [hmk, hf, decide_true] at i105
  have p107 := fun (T : Heap) c0 c1 c2 c3 c4 c5 => putf_ic 0 c0 c1 c2 c3 c4 c5 f (.cells [c0, c1, c2, c3, c4, c5] :: T) rfl
  simp (disch := omega) only [wk, avalE, aactE, evPE, boundE, asNat, bv_seql cellsEq_ii, bv_sneqd cellsEq_ii, readC, allOne, fillL, resE, tupled, ↓reduceIte, Nat.reduceEqDiff, Int.reduceEq, Int.reduceLT, Int.reduceLE, Nat.reduceAdd, Nat.reduceMul, Nat.reduceLT, Nat.reduceLeDiff, reduceCtorEq, partsA, Int.reduceToNat, Int.reduceAdd, Int.reduceSub, Int.reduceMul, Int.reduceNeg, Nat.reduceSub, Nat.reduceDiv, in_105, runE_none ll_105, i105, in_107, runE_none ll_107, p107]
  refine ret_again (by decide) (.inl rfl) ?_
  rw [ret_loop]
  have i109 := fun H => way_ic (.ptr 0 0) y H rfl
  by_cases hy : y ≤ 2
  case neg =>
    have hn : ¬ (Hd.mk m s l f y 0 0 0).ok := fun k => hy k.2.2.2.2.1
    simp (disch := omega) only [wk, avalE, aactE, evPE, boundE, asNat, bv_seql cellsEq_ii, bv_sneqd cellsEq_ii, readC, allOne, fillL, resE, tupled, ↓reduceIte, Nat.reduceEqDiff, Int.reduceEq, Int.reduceLT, Int.reduceLE, Nat.reduceAdd, Nat.reduceMul, Nat.reduceLT, Nat.reduceLeDiff, reduceCtorEq, partsA, Int.reduceToNat, Int.reduceAdd, Int.reduceSub, Int.reduceMul, Int.reduceNeg, Nat.reduceSub, Nat.reduceDiv, in_109, runE_none ll_109, i109, hy]
    rw [ret_scp_goto rfl]
    refine ret_again (by decide) (.inl rfl) ?_
    simp (disch := omega) only [wk, avalE, aactE, evPE, boundE, asNat, bv_seql cellsEq_ii, bv_sneqd cellsEq_ii, readC, allOne, fillL, resE, tupled, ↓reduceIte, Nat.reduceEqDiff, Int.reduceEq, Int.reduceLT, Int.reduceLE, Nat.reduceAdd, Nat.reduceMul, Nat.reduceLT, Nat.reduceLeDiff, reduceCtorEq, nd0_av, hn, purify, unownT, lend, unown, AV.hf, hfL, Tk.hf]
  have p110 := fun (T : Heap) c0 c1 c2 c3 c4 c5 => puty_ic 0 c0 c1 c2 c3 c4 c5 y (.cells [c0, c1, c2, c3, c4, c5] :: T) huy.1 hy rfl
  simp (disch := omega) only [wk, avalE, aactE, evPE, boundE, asNat, bv_seql cellsEq_ii, bv_sneqd cellsEq_ii, readC, allOne, fillL, resE, tupled, ↓reduceIte, Nat.reduceEqDiff, Int.reduceEq, Int.reduceLT, Int.reduceLE, Nat.reduceAdd, Nat.reduceMul, Nat.reduceLT, Nat.reduceLeDiff, reduceCtorEq, partsA, Int.reduceToNat, Int.reduceAdd, Int.reduceSub, Int.reduceMul, Int.reduceNeg, Nat.reduceSub, Nat.reduceDiv, in_109, runE_none ll_109, i109, hy, in_110, runE_none ll_110, p110]
  refine ret_again (by decide) (.inl rfl) ?_
  rw [ret_loop]
  have hok : (Hd.mk m s l f y 0 0 0).ok := ⟨hm.1, hm.2, hs, hf, hy, rfl, rfl, rfl⟩
  have rp' := rp f (Hd.left hok)
  simp (disch := omega) only [wk, avalE, aactE, evPE, boundE, asNat, bv_seql cellsEq_ii, bv_sneqd cellsEq_ii, readC, allOne, fillL, resE, tupled, ↓reduceIte, Nat.reduceEqDiff, Int.reduceEq, Int.reduceLT, Int.reduceLE, Nat.reduceAdd, Nat.reduceMul, Nat.reduceLT, Nat.reduceLeDiff, reduceCtorEq, partsA, Int.reduceToNat, Int.reduceAdd, Int.reduceSub, Int.reduceMul, Int.reduceNeg, Nat.reduceSub, Nat.reduceDiv, rp', hok]
  refine runE_row (fun sz tk' H1 hz ho htk hup hle => ?_)
  have h1 := hup 0 _ rfl
  have u1' : ∀ k n, unown (.int k n) = .int k n := fun _ _ => rfl
  have hu := own_unown ho (fun s n c e => by cases e; exact htk rfl)
  have s0 : ∀ (o : AObj), (H1.set 0 o)[0]? = some o := fun o => set_eq h1
  have s1 : ∀ (o q : AObj), (H1.set 0 o).set 0 q = H1.set 0 q := fun o q => List.set_set ..
  have s2 : ∀ (o : AObj), ((H1.set 0 o).set 0 o)[0]? = some o := fun o => by rw [s1]; exact s0 o
  simp (disch := omega) only [wk, avalE, aactE, evPE, boundE, asNat, bv_seql cellsEq_ii, bv_sneqd cellsEq_ii, readC, allOne, fillL, resE, tupled, ↓reduceIte, Nat.reduceEqDiff, Int.reduceEq, Int.reduceLT, Int.reduceLE, Nat.reduceAdd, Nat.reduceMul, Nat.reduceLT, Nat.reduceLeDiff, reduceCtorEq, h1, s0, s1, s2]
  simp only [purify, unownT, List.map_cons, List.map_nil, lend, u1', hu, AV.hf, hfL, slvR_hf (f := pairA) (fun _ => rfl), Nd.av, Nd.cells, Bool.and_self, if_true]
/-- A node's cells, its pairs as they are handed on. -/
def Nd.cs (n : Nd) : List AV := n.cells (slvR 2 pairA n.ps)
theorem av_cs (n : Nd) : n.av = .agg (Nd.cs n) := rfl
theorem lend_Nd (n : Nd) : lend n.av = n.av := by
  simp only [Nd.av, Nd.cells, lend, List.map_cons, List.map_nil, slvR_unown]
  rfl
theorem lend_Nc (n : Nd) : lend (.agg (Nd.cs n)) = .agg (Nd.cs n) := lend_Nd n
theorem hf_Nc (n : Nd) : (AV.agg (Nd.cs n)).hf = true := hf_Nd n
theorem one_Nc (n : Nd) : allOne (Nd.cs n) = true := by
  simp only [Nd.cs, Nd.cells, allOne, slvR_one]
  rfl
theorem may_px (n : Nd) (p : Int × Int) (H : Heap) : pcx (cbL tab) 94 [.agg (Nd.cs n), .agg (pairA p)] H = some (.plain (.bool (decide (mayN n.v n.l p)))) := by
  obtain ⟨k, q⟩ := p
  have ep : lend (.agg (pairA (k, q))) = .agg (pairA (k, q)) := rfl
  refine pcx_N rfl (pc_wp (fi := c94) rfl ?_ (by simp [c94]) (by decide) ?_)
  · simp only [pcOn, c94, List.map_cons, List.map_nil, lend_Nc, ep, hfL, hf_Nc, Bool.true_and]; rfl
  unfold c94
  rw [List.map_cons, List.map_cons, List.map_nil, ep, lend_Nc]
  have on := one_Nc n
  have bl := block_px
  obtain ⟨v, s, l, f, y, ps⟩ := n
  simp only [Nd.cs, Nd.cells] at on ⊢
  generalize slvR 2 pairA ps = P at *
  have o1 : AV.one P = true := by
    simp only [allOne, Bool.and_eq_true] at on
    exact on.2.2.2.2.2.1
  by_cases hv : v = 0
  · by_cases h1 : 1 ≤ q
    · by_cases h2 : q ≤ 1099511627776
      · by_cases h3 : l ≤ k
        · simp (disch := omega) only [wk, avalE, aactE, evPE, boundE, asNat, bv_seql cellsEq_ii, bv_sneqd cellsEq_ii, readC, allOne, fillL, resE, tupled, ↓reduceIte, Nat.reduceEqDiff, Int.reduceEq, Int.reduceLT, Int.reduceLE, Nat.reduceAdd, Nat.reduceMul, Nat.reduceLT, Nat.reduceLeDiff, reduceCtorEq, pairA, o1, hv, h1, h2, h3, mayN, purify, unownT, lend, unown, AV.hf, runG_un]
        · simp (disch := omega) only [wk, avalE, aactE, evPE, boundE, asNat, bv_seql cellsEq_ii, bv_sneqd cellsEq_ii, readC, allOne, fillL, resE, tupled, ↓reduceIte, Nat.reduceEqDiff, Int.reduceEq, Int.reduceLT, Int.reduceLE, Nat.reduceAdd, Nat.reduceMul, Nat.reduceLT, Nat.reduceLeDiff, reduceCtorEq, pairA, o1, hv, h1, h2, h3, mayN, purify, unownT, lend, unown, AV.hf, runG_un, and_false]
      · simp (disch := omega) only [wk, avalE, aactE, evPE, boundE, asNat, bv_seql cellsEq_ii, bv_sneqd cellsEq_ii, readC, allOne, fillL, resE, tupled, ↓reduceIte, Nat.reduceEqDiff, Int.reduceEq, Int.reduceLT, Int.reduceLE, Nat.reduceAdd, Nat.reduceMul, Nat.reduceLT, Nat.reduceLeDiff, reduceCtorEq, pairA, o1, hv, h1, h2, mayN, purify, unownT, lend, unown, AV.hf, runG_un, and_false, false_and]
    · simp (disch := omega) only [wk, avalE, aactE, evPE, boundE, asNat, bv_seql cellsEq_ii, bv_sneqd cellsEq_ii, readC, allOne, fillL, resE, tupled, ↓reduceIte, Nat.reduceEqDiff, Int.reduceEq, Int.reduceLT, Int.reduceLE, Nat.reduceAdd, Nat.reduceMul, Nat.reduceLT, Nat.reduceLeDiff, reduceCtorEq, pairA, o1, hv, h1, mayN, purify, unownT, lend, unown, AV.hf, runG_un, and_false, false_and]
  · by_cases h1 : blockI q
    · by_cases h3 : l < k
      · simp (disch := omega) only [wk, avalE, aactE, evPE, boundE, asNat, bv_seql cellsEq_ii, bv_sneqd cellsEq_ii, readC, allOne, fillL, resE, tupled, ↓reduceIte, Nat.reduceEqDiff, Int.reduceEq, Int.reduceLT, Int.reduceLE, Nat.reduceAdd, Nat.reduceMul, Nat.reduceLT, Nat.reduceLeDiff, reduceCtorEq, pairA, o1, hv, bl, h1, h3, mayN, purify, unownT, lend, unown, AV.hf, runG_un]
      · simp (disch := omega) only [wk, avalE, aactE, evPE, boundE, asNat, bv_seql cellsEq_ii, bv_sneqd cellsEq_ii, readC, allOne, fillL, resE, tupled, ↓reduceIte, Nat.reduceEqDiff, Int.reduceEq, Int.reduceLT, Int.reduceLE, Nat.reduceAdd, Nat.reduceMul, Nat.reduceLT, Nat.reduceLeDiff, reduceCtorEq, pairA, o1, hv, bl, h1, h3, mayN, purify, unownT, lend, unown, AV.hf, runG_un, and_false]
    · simp (disch := omega) only [wk, avalE, aactE, evPE, boundE, asNat, bv_seql cellsEq_ii, bv_sneqd cellsEq_ii, readC, allOne, fillL, resE, tupled, ↓reduceIte, Nat.reduceEqDiff, Int.reduceEq, Int.reduceLT, Int.reduceLE, Nat.reduceAdd, Nat.reduceMul, Nat.reduceLT, Nat.reduceLeDiff, reduceCtorEq, pairA, o1, hv, bl, h1, mayN, purify, unownT, lend, unown, AV.hf, runG_un, and_false, false_and]
theorem cn93 (p : Int × Int) (id : Nat) (H : Heap) : pcx (cbL tab) 93 [.agg (pairA p), .ptr id 0] H = none := pcx_none rfl (pc_none (fi := c93) rfl rfl)
theorem l93 : (cbL tab).lent 93 = false := rfl
theorem not_ic (p : Int × Int) (id : Nat) (n : Nd) (H : Heap) (h : H[id]? = some (.cells (Nd.cs n))) :
    (cbL tab).ic 93 [.agg (pairA p), .ptr id 0] H = some (.ret (.bool (!decide (mayN n.v n.l p))), H ++ [.cells (pairA p)]) := by
  refine ic_val (ic_wp (fi := c93) rfl rfl (by simp [c93]) (by decide) ?_)
  unfold c93
  have e1 : ∀ o : AObj, (H ++ [o])[H.length]? = some o := fun o => by simp
  have e0 : ∀ o : AObj, (H ++ [o])[id]? = H[id]? := fun o => List.getElem?_append_left (by have := (List.getElem?_eq_some_iff.1 h).1; exact this)
  have m := may_px n p
  simp only [Nd.cs, Nd.cells] at m h
  simp only [pairA] at m ⊢
  simp (disch := omega) only [wk, avalE, aactE, evPE, boundE, asNat, bv_seql cellsEq_ii, bv_sneqd cellsEq_ii, readC, allOne, fillL, resE, tupled, ↓reduceIte, Nat.reduceEqDiff, Int.reduceEq, Int.reduceLT, Int.reduceLE, Nat.reduceAdd, Nat.reduceMul, Nat.reduceLT, Nat.reduceLeDiff, reduceCtorEq, e1, e0, h, m]
theorem index2_ic (n : Nd) (l : List (Int × Int)) (s : Nat) (tk : Tk) (id : Nat) (H : Heap) (hn : l.length ≤ 1000) (hz : l ≠ [] → s = 2) (h : H[id]? = some (.cells (Nd.cs n))) :
    ∃ o H', (cbL tab).ic 152 [.sl s l.length (encs pairA l) tk, .fn 93 [.ptr id 0]] H = some (o, H') ∧
      ((∃ v, o = .ret (.int .i64 v) ∧ (0 ≤ v ↔ ¬ mayAll n.v n.l l)) ∧ (∀ (i : Nat) (q : AObj), H[i]? = some q → H'[i]? = some q) ∧ H.length ≤ H'.length) := by
  refine ic_wp (fi := c152) rfl (by simp [pcOn, c152, hfL, lend, unown, AV.hf]) (by simp [c152]) (by decide) ?_
  unfold c152
  simp (disch := omega) only [wk, avalE, aactE, evPE, boundE, asNat, bv_seql cellsEq_ii, bv_sneqd cellsEq_ii, readC, allOne, fillL, resE, tupled, ↓reduceIte, Nat.reduceEqDiff, Int.reduceEq, Int.reduceLT, Int.reduceLE, Nat.reduceAdd, Nat.reduceMul, Nat.reduceLT, Nat.reduceLeDiff, reduceCtorEq]
  refine loop_ind (fun (x : List (Int × Int) × List (Int × Int)) E df H1 => l = x.1 ++ x.2 ∧ (mayAll n.v n.l l ↔ mayAll n.v n.l x.2) ∧ E 0 = .sl s l.length (encs pairA l) tk ∧ E 1 = .fn 93 [.ptr id 0] ∧ E 7 = .int .i64 (l.length : Nat) ∧ E 8 = .int .i64 (x.1.length : Nat) ∧ df = [] ∧
      (∀ (i : Nat) (q : AObj), H[i]? = some q → H1[i]? = some q) ∧ H.length ≤ H1.length) (fun x => x.2.length) ([], l) (by decide) (.inl rfl) ⟨rfl, Iff.rfl, rfl, rfl, rfl, rfl, rfl, fun _ _ h => h, Nat.le_refl _⟩ ?_
  intro ⟨pre, suf⟩ E df H1 ih hP
  obtain ⟨a1, a2, E0, E1, E7, E8, hdf, hup, hle⟩ := hP
  dsimp only at a1 a2 E8
  subst hdf a1
  simp only [List.length_append] at hn E7
  cases suf with
  | nil =>
    simp only [List.length_nil, Nat.add_zero] at E7
    simp (disch := omega) only [wk, avalE, aactE, evPE, boundE, asNat, bv_seql cellsEq_ii, bv_sneqd cellsEq_ii, readC, allOne, fillL, resE, tupled, ↓reduceIte, Nat.reduceEqDiff, Int.reduceEq, Int.reduceLT, Int.reduceLE, Nat.reduceAdd, Nat.reduceMul, Nat.reduceLT, Nat.reduceLeDiff, reduceCtorEq, E0, E1, E7, E8]
    refine ⟨⟨_, rfl, ?_⟩, hup, hle⟩
    rw [a2]
    simp [mayAll]
  | cons x r =>
    simp only [List.length_cons] at hn E7
    obtain rfl := hz (by simp)
    obtain ⟨k, q⟩ := x
    have c1 := cn93 (k, q) id H1
    have c2 := not_ic (k, q) id n H1 (hup _ _ h)
    simp only [pairA] at c1 c2
    have a3 : mayAll n.v n.l ((k, q) :: r) ↔ mayN n.v n.l (k, q) ∧ mayAll n.v n.l r := by simp [mayAll]
    have up2 : ∀ (i : Nat) (o : AObj), H[i]? = some o → (H1 ++ [AObj.cells [.int .u64 k, .int .u64 q]])[i]? = some o := fun i o ho => by
      have := hup i o ho
      rw [List.getElem?_append_left (List.getElem?_eq_some_iff.1 this).1]; exact this
    by_cases hx : mayN n.v n.l (k, q)
    · simp only [hx, decide_true, Bool.not_true] at c2
      simp (disch := omega) only [wk, avalE, aactE, evPE, boundE, asNat, bv_seql cellsEq_ii, bv_sneqd cellsEq_ii, readC, allOne, fillL, resE, tupled, ↓reduceIte, Nat.reduceEqDiff, Int.reduceEq, Int.reduceLT, Int.reduceLE, Nat.reduceAdd, Nat.reduceMul, Nat.reduceLT, Nat.reduceLeDiff, reduceCtorEq, E0, E1, E7, E8, pairA, c1, c2, runE_none l93]
      refine ih (pre ++ [(k, q)], r) _ _ _ (by simp) ?_
      exact ⟨by simp, by rw [a2, a3]; simp [hx], by simp only [en, ↓reduceIte, Nat.reduceEqDiff, E0], by simp only [en, ↓reduceIte, Nat.reduceEqDiff, E1], by simp only [en, ↓reduceIte, Nat.reduceEqDiff, E7], by simp only [en, ↓reduceIte, Nat.reduceEqDiff], rfl, up2, by simp; omega⟩
    · simp only [hx, decide_false, Bool.not_false] at c2
      simp (disch := omega) only [wk, avalE, aactE, evPE, boundE, asNat, bv_seql cellsEq_ii, bv_sneqd cellsEq_ii, readC, allOne, fillL, resE, tupled, ↓reduceIte, Nat.reduceEqDiff, Int.reduceEq, Int.reduceLT, Int.reduceLE, Nat.reduceAdd, Nat.reduceMul, Nat.reduceLT, Nat.reduceLeDiff, reduceCtorEq, E0, E1, E7, E8, pairA, c1, c2, runE_none l93]
      refine ⟨⟨_, rfl, ?_⟩, up2, by first | omega | (simp; omega)⟩
      rw [a2, a3]
      simp [hx]
      try omega
theorem l91n : (cbL tab).lent 152 = false := rfl
theorem l82n : (cbL tab).lent 92 = false := rfl
theorem cn82n (s n id : Nat) (cs : List AV) (tk : Tk) (H : Heap) : pcx (cbL tab) 92 [.sl s n cs tk, .fn 93 [.ptr id 0]] H = none :=
  pcx_none rfl (pc_none (fi := c92) rfl (by simp [pcOn, c92, hfL, lend, unown, AV.hf]))
theorem contains2_ic (n : Nd) (l : List (Int × Int)) (s : Nat) (tk : Tk) (id : Nat) (H : Heap) (hn : l.length ≤ 1000) (hz : l ≠ [] → s = 2) (h : H[id]? = some (.cells (Nd.cs n))) :
    ∃ H', (cbL tab).ic 92 [.sl s l.length (encs pairA l) tk, .fn 93 [.ptr id 0]] H = some (.ret (.bool (decide (¬ mayAll n.v n.l l))), H') ∧
      (∀ (i : Nat) (q : AObj), H[i]? = some q → H'[i]? = some q) ∧ H.length ≤ H'.length := by
  obtain ⟨o, H', k1, ⟨v, rfl, hv⟩, k2, k3⟩ := index2_ic n l s tk id H hn hz h
  refine ⟨H', ic_val (ic_wp (fi := c92) rfl (by simp [pcOn, c92, hfL, lend, unown, AV.hf]) (by simp [c92]) (by decide) ?_), k2, k3⟩
  unfold c92
  have c1 : ∀ H, pcx (cbL tab) 152 [.sl s l.length (encs pairA l) tk, .fn 93 [.ptr id 0]] H = none := fun H => pcx_none rfl (pc_none (fi := c152) rfl (by simp [pcOn, c152, hfL, lend, unown, AV.hf]))
  simp (disch := omega) only [wk, avalE, aactE, evPE, boundE, asNat, bv_seql cellsEq_ii, bv_sneqd cellsEq_ii, readC, allOne, fillL, resE, tupled, ↓reduceIte, Nat.reduceEqDiff, Int.reduceEq, Int.reduceLT, Int.reduceLE, Nat.reduceAdd, Nat.reduceMul, Nat.reduceLT, Nat.reduceLeDiff, reduceCtorEq, c1, k1, runE_none l91n, hv]
theorem unown_i (k : IntKind) (n : Int) : unown (.int k n) = .int k n := rfl
theorem settled_len (n : Nat) (cs : List AV) (tk : Tk) (H : Heap) (hn : (n : Int) ≤ 9223372036854775807) (hc : hfL cs = true) (h : n ≠ 64) : pcx (cbL tab) 58 [.sl 1 n cs tk] H = some (.plain (.tup [nd0.av, .int .i64 210])) := by
  obtain ⟨u1, e1, f1⟩ := lend_sl 1 n cs tk
  refine pcx_N rfl (pc_wp (fi := c58) rfl ?_ (by simp [c58]) (by decide) ?_)
  · simp only [pcOn, List.map_cons, List.map_nil, hfL, hf_lend_sl, hf_lend_int, hf_lend_bool, hf_lend_str, hfL_append, Bool.and_self, Bool.and_true, Bool.true_and, c58, hc]
  unfold c58
  rw [List.map_cons, List.map_nil, e1]
  have o := fun H => of_len n cs u1 H hn hc h
  rw [nd0_av] at o ⊢
  simp (disch := omega) only [wk, avalE, aactE, evPE, boundE, asNat, bv_seql cellsEq_ii, bv_sneqd cellsEq_ii, readC, allOne, fillL, resE, tupled, ↓reduceIte, Nat.reduceEqDiff, Int.reduceEq, Int.reduceLT, Int.reduceLE, Nat.reduceAdd, Nat.reduceMul, Nat.reduceLT, Nat.reduceLeDiff, reduceCtorEq, o, purify, unownT, lend, unown, AV.hf, hfL, Tk.hf]
theorem settled_words (h : Hd) (hu : h.u) (ps : List (Int × Int)) (hp : ps.length = 28) (rest : List AV) (tk : Tk) (H : Heap) (hc : hfL rest = true) :
    pcx (cbL tab) 58 [.sl 1 64 (wordsA h ps rest) tk] H = some (.plain (.tup [if h.ok ∧ chkE h ps = 0 then (ndOf h ps).av else nd0.av, .int .i64 (if h.ok then chkE h ps else 210)])) := by
  have hcs := hf_words h ps rest hc
  obtain ⟨u1, e1, f1⟩ := lend_sl 1 64 (wordsA h ps rest) tk
  refine pcx_N rfl (pc_wp (fi := c58) rfl ?_ (by simp [c58]) (by decide) ?_)
  · simp only [pcOn, List.map_cons, List.map_nil, hfL, hf_lend_sl, hf_lend_int, hf_lend_bool, hf_lend_str, hfL_append, Bool.and_self, Bool.and_true, Bool.true_and, c58, hcs]
  unfold c58
  rw [List.map_cons, List.map_nil, e1]
  have o := fun H => of_words h hu ps hp rest u1 H hc
  by_cases hok : h.ok
  case neg =>
    simp only [hok, if_false, nd0_av] at o
    simp only [hok, if_false, false_and, nd0_av]
    simp (disch := omega) only [wk, avalE, aactE, evPE, boundE, asNat, bv_seql cellsEq_ii, bv_sneqd cellsEq_ii, readC, allOne, fillL, resE, tupled, ↓reduceIte, Nat.reduceEqDiff, Int.reduceEq, Int.reduceLT, Int.reduceLE, Nat.reduceAdd, Nat.reduceMul, Nat.reduceLT, Nat.reduceLeDiff, reduceCtorEq, o, purify, unownT, lend, unown, AV.hf, hfL, Tk.hf]
  simp only [hok, if_true, true_and] at o ⊢
  have hlen := rdL_le h.f ps
  have sc : ∀ H, pcx (cbL tab) 91 [.int .u64 h.f, .sl 1 56 (encs pairA ps ++ rest) .ro] H = some (.plain (.int .i64 (if okL h.f ps then 0 else 190))) := fun H => by
    have := slotscheck_yes h.f ps rest .ro H hc (Hd.row hok hp)
    rwa [row, hp] at this
  have ew : wordsA h ps rest = .int .u64 h.m :: .int .u64 h.s :: .int .u64 h.l :: .int .u64 h.f :: .int .u64 h.y :: .int .u64 h.a :: .int .u64 h.b :: .int .u64 h.c :: (encs pairA ps ++ rest) := rfl
  have lw : 56 ≤ (encs pairA ps).length + rest.length := by rw [encs_length (f := pairA) (k := 2), hp]; omega
  have en : (ndOf h ps).av = .agg [.int .i64 (h.m - nmark), .int .i64 h.s, .int .u64 h.l, .int .u64 h.f, .int .i64 h.y, slvR 2 pairA (rdL h.f ps)] := rfl
  have sf := slvR_hf (sz := 2) (f := pairA) (fun _ => rfl) (rdL h.f ps)
  have so := slvR_one (sz := 2) (f := pairA) (rdL h.f ps)
  have su := slvR_unown (sz := 2) (f := pairA) (rdL h.f ps)
  have sv : ∃ (z : Nat) (k : Tk), slvR 2 pairA (rdL h.f ps) = .sl z (rdL h.f ps).length (encs pairA (rdL h.f ps)) k ∧ (rdL h.f ps ≠ [] → z = 2) := by
    unfold slvR
    split
    · rename_i he
      exact ⟨0, .z, rfl, fun hne => absurd (List.isEmpty_iff.1 he) hne⟩
    · exact ⟨2, .ro, rfl, fun _ => rfl⟩
  rw [en] at o ⊢
  have ec : ∀ (q : AV), q = slvR 2 pairA (rdL h.f ps) → [.int .i64 (h.m - nmark), .int .i64 h.s, .int .u64 h.l, .int .u64 h.f, .int .i64 h.y, q] = Nd.cs (ndOf h ps) := fun q e => by rw [e]; rfl
  by_cases h1 : okL h.f ps
  case neg =>
    have e0 : chkE h ps = 190 := if_neg (fun k => h1 k.1)
    simp only [h1, if_false] at sc
    simp only [e0, Int.reduceEq, if_false, nd0_av]
    rw [ew]
    rw [ew] at o
    simp (disch := omega) only [wk, avalE, aactE, evPE, boundE, asNat, bv_seql cellsEq_ii, bv_sneqd cellsEq_ii, readC, allOne, fillL, resE, tupled, ↓reduceIte, Nat.reduceEqDiff, Int.reduceEq, Int.reduceLT, Int.reduceLE, Nat.reduceAdd, Nat.reduceMul, Nat.reduceLT, Nat.reduceLeDiff, reduceCtorEq, Int.reduceToNat, Int.reduceAdd, Int.reduceSub, Int.reduceMul, Int.reduceNeg, Nat.reduceSub, Nat.reduceDiv, o, sc, so, runG_un, purify, unownT, lend, unown, AV.hf, hfL, Tk.hf]
  simp only [h1, if_true] at sc
  obtain ⟨z, k, ev, hz⟩ := sv
  have key : ∀ Hq : Heap, Hq[1]? = some (.cells (Nd.cs (ndOf h ps))) → ∃ H', (cbL tab).ic 92 [.sl z (rdL h.f ps).length (encs pairA (rdL h.f ps)) k, .fn 93 [.ptr 1 0]] Hq = some (.ret (.bool (decide (¬ mayAll (h.m - nmark) h.l (rdL h.f ps)))), H') ∧
      (∀ (i : Nat) (q : AObj), Hq[i]? = some q → H'[i]? = some q) ∧ Hq.length ≤ H'.length := fun Hq hq => contains2_ic (ndOf h ps) (rdL h.f ps) z k 1 Hq (by omega) hz hq
  rw [ew]
  rw [ew] at o
  have cn := fun H => cn82n z (rdL h.f ps).length 1 (encs pairA (rdL h.f ps)) k H
  have hz0 := ec _ rfl
  rw [ev] at o so sf su ⊢ hz0
  obtain ⟨H', k1, k2, k3⟩ := key [.cells [.int .i64 0, .int .i64 0, .int .u64 0, .int .u64 0, .int .i64 0, .sl 0 0 [] .z], .cells [.int .i64 (h.m - nmark), .int .i64 h.s, .int .u64 h.l, .int .u64 h.f, .int .i64 h.y, .sl z (rdL h.f ps).length (encs pairA (rdL h.f ps)) k]] (by rw [← hz0]; rfl)
  have g0 := k2 0 _ rfl
  have g1 := k2 1 _ rfl
  have s0 : ∀ (o : AObj), (H'.set 0 o)[0]? = some o := fun o => set_eq g0
  by_cases h2 : mayAll (h.m - nmark) h.l (rdL h.f ps)
  · have e0 : chkE h ps = 0 := if_pos ⟨h1, h2⟩
    simp only [h2, not_true_eq_false, decide_false] at k1
    simp only [e0, if_true]
    simp (disch := omega) only [wk, avalE, aactE, evPE, boundE, asNat, bv_seql cellsEq_ii, bv_sneqd cellsEq_ii, readC, allOne, fillL, resE, tupled, ↓reduceIte, Nat.reduceEqDiff, Int.reduceEq, Int.reduceLT, Int.reduceLE, Nat.reduceAdd, Nat.reduceMul, Nat.reduceLT, Nat.reduceLeDiff, reduceCtorEq, Int.reduceToNat, Int.reduceAdd, Int.reduceSub, Int.reduceMul, Int.reduceNeg, Nat.reduceSub, Nat.reduceDiv, o, sc, so, runG_un, cn, runE_none l82n, k1, g0, g1, s0]
    have kf : k.hf = true := by
      have := sf
      simp only [AV.hf, Bool.and_eq_true] at this
      exact this.2
    simp only [purify, unownT, List.map_cons, List.map_nil, lend, unown_i, su, AV.hf, hfL, hf_pairA, kf, Bool.and_self, if_true]
  · have e0 : chkE h ps = 190 := if_neg (fun q => h2 q.2)
    simp only [h2, not_false_eq_true, decide_true] at k1
    simp only [e0, Int.reduceEq, if_false, nd0_av]
    simp (disch := omega) only [wk, avalE, aactE, evPE, boundE, asNat, bv_seql cellsEq_ii, bv_sneqd cellsEq_ii, readC, allOne, fillL, resE, tupled, ↓reduceIte, Nat.reduceEqDiff, Int.reduceEq, Int.reduceLT, Int.reduceLE, Nat.reduceAdd, Nat.reduceMul, Nat.reduceLT, Nat.reduceLeDiff, reduceCtorEq, Int.reduceToNat, Int.reduceAdd, Int.reduceSub, Int.reduceMul, Int.reduceNeg, Nat.reduceSub, Nat.reduceDiv, o, sc, so, runG_un, cn, runE_none l82n, k1, g0, g1, s0, purify, unownT, lend, unown, AV.hf, hfL, Tk.hf]
theorem nodecheck_len (n : Nat) (cs : List AV) (tk : Tk) (H : Heap) (hn : (n : Int) ≤ 9223372036854775807) (hc : hfL cs = true) (h : n ≠ 64) : pcx (cbL tab) 27 [.sl 1 n cs tk] H = some (.plain (.int .i64 210)) := by
  obtain ⟨u1, e1, f1⟩ := lend_sl 1 n cs tk
  refine pcx_N rfl (pc_wp (fi := c27) rfl ?_ (by simp [c27]) (by decide) ?_)
  · simp only [pcOn, List.map_cons, List.map_nil, hfL, hf_lend_sl, hf_lend_int, hf_lend_bool, hf_lend_str, hfL_append, Bool.and_self, Bool.and_true, Bool.true_and, c27, hc]
  unfold c27
  rw [List.map_cons, List.map_nil, e1]
  have o := fun H => settled_len n cs u1 H hn hc h
  rw [nd0_av] at o
  simp (disch := omega) only [wk, avalE, aactE, evPE, boundE, asNat, bv_seql cellsEq_ii, bv_sneqd cellsEq_ii, readC, allOne, fillL, resE, tupled, ↓reduceIte, Nat.reduceEqDiff, Int.reduceEq, Int.reduceLT, Int.reduceLE, Nat.reduceAdd, Nat.reduceMul, Nat.reduceLT, Nat.reduceLeDiff, reduceCtorEq, o, purify, unownT, lend, unown, AV.hf, hfL, Tk.hf]
theorem nodecheck_words (h : Hd) (hu : h.u) (ps : List (Int × Int)) (hp : ps.length = 28) (rest : List AV) (tk : Tk) (H : Heap) (hc : hfL rest = true) :
    pcx (cbL tab) 27 [.sl 1 64 (wordsA h ps rest) tk] H = some (.plain (.int .i64 (if h.ok then chkE h ps else 210))) := by
  have hcs := hf_words h ps rest hc
  obtain ⟨u1, e1, f1⟩ := lend_sl 1 64 (wordsA h ps rest) tk
  refine pcx_N rfl (pc_wp (fi := c27) rfl ?_ (by simp [c27]) (by decide) ?_)
  · simp only [pcOn, List.map_cons, List.map_nil, hfL, hf_lend_sl, hf_lend_int, hf_lend_bool, hf_lend_str, hfL_append, Bool.and_self, Bool.and_true, Bool.true_and, c27, hcs]
  unfold c27
  rw [List.map_cons, List.map_nil, e1]
  have o := fun H => settled_words h hu ps hp rest u1 H hc
  have : ∃ n : Nd, (if h.ok ∧ chkE h ps = 0 then (ndOf h ps).av else nd0.av) = .agg (Nd.cs n) := by
    split
    · exact ⟨_, rfl⟩
    · exact ⟨_, rfl⟩
  obtain ⟨n, en⟩ := this
  rw [en] at o
  have on := one_Nc n
  simp only [Nd.cs, Nd.cells] at o on
  have o1 : AV.one (slvR 2 pairA n.ps) = true := slvR_one _
  simp (disch := omega) only [wk, avalE, aactE, evPE, boundE, asNat, bv_seql cellsEq_ii, bv_sneqd cellsEq_ii, readC, allOne, fillL, resE, tupled, ↓reduceIte, Nat.reduceEqDiff, Int.reduceEq, Int.reduceLT, Int.reduceLE, Nat.reduceAdd, Nat.reduceMul, Nat.reduceLT, Nat.reduceLeDiff, reduceCtorEq, o, o1, purify, unownT, lend, unown, AV.hf]
end Go.Proofs.Ytailfegmnkldoaa
