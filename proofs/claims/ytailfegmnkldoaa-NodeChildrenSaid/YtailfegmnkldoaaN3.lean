/- THE WALK OF Of. No condition but those stated. -/
import Derived.Test.YtailfegmnkldoaaN2
set_option linter.unusedSimpArgs false
set_option linter.unusedVariables false
set_option linter.unusedSectionVars false
namespace Go.Proofs.Ytailfegmnkldoaa
open Go Go.Am Go.Slots Go.Nod
set_option maxHeartbeats 8000000
set_option maxRecDepth 10000
theorem of_len (n : Nat) (cs : List AV) (tk : Tk) (H : Heap) (hn : (n : Int) ≤ 9223372036854775807) (hc : hfL cs = true) (h : n ≠ 64) : pcx (cbL tab) 29 [.sl 1 n cs tk] H = some (.plain (.tup [nd0.av, .int .i64 210])) := by
  obtain ⟨u1, e1, f1⟩ := lend_sl 1 n cs tk
  refine pcx_N rfl (pc_wp (fi := c29) rfl ?_ (by simp [c29]) (by decide) ?_)
  · simp only [pcOn, List.map_cons, List.map_nil, hfL, hf_lend_sl, hf_lend_int, hf_lend_bool, hf_lend_str, hfL_append, Bool.and_self, Bool.and_true, Bool.true_and, c29, hc]
  unfold c29
  rw [List.map_cons, List.map_nil, e1]
  have h' : ¬ (n : Int) = 64 := by omega
  simp (disch := omega) only [wk, avalE, aactE, evPE, boundE, asNat, bv_seql cellsEq_ii, bv_sneqd cellsEq_ii, readC, allOne, fillL, resE, tupled, ↓reduceIte, Nat.reduceEqDiff, Int.reduceEq, Int.reduceLT, Int.reduceLE, Nat.reduceAdd, Nat.reduceMul, Nat.reduceLT, Nat.reduceLeDiff, reduceCtorEq, h']
  rw [ret_scp_goto rfl]
  refine ret_again (by decide) (.inl rfl) ?_
  simp (disch := omega) only [wk, avalE, aactE, evPE, boundE, asNat, bv_seql cellsEq_ii, bv_sneqd cellsEq_ii, readC, allOne, fillL, resE, tupled, ↓reduceIte, Nat.reduceEqDiff, Int.reduceEq, Int.reduceLT, Int.reduceLE, Nat.reduceAdd, Nat.reduceMul, Nat.reduceLT, Nat.reduceLeDiff, reduceCtorEq, nd0_av, purify, unownT, lend, unown, AV.hf, hfL, Tk.hf]
theorem of_words (h : Hd) (hu : h.u) (ps : List (Int × Int)) (hp : ps.length = 28) (rest : List AV) (tk : Tk) (H : Heap) (hc : hfL rest = true) :
    pcx (cbL tab) 29 [.sl 1 64 (wordsA h ps rest) tk] H = some (.plain (.tup [if h.ok then (ndOf h ps).av else nd0.av, .int .i64 (if h.ok then 0 else 210)])) := by
  have hcs := hf_words h ps rest hc
  obtain ⟨u1, e1, f1⟩ := lend_sl 1 64 (wordsA h ps rest) tk
  refine pcx_N rfl (pc_wp (fi := c29) rfl ?_ (by simp [c29]) (by decide) ?_)
  · simp only [pcOn, List.map_cons, List.map_nil, hfL, hf_lend_sl, hf_lend_int, hf_lend_bool, hf_lend_str, hfL_append, Bool.and_self, Bool.and_true, Bool.true_and, c29, hcs]
  unfold c29
  rw [List.map_cons, List.map_nil, e1]
  have hcr : hfL (encs pairA ps ++ rest) = true := by rw [hfL_append, hf_pairA, hc]; rfl
  have lw : 56 ≤ (encs pairA ps ++ rest).length := by rw [List.length_append, encs_length (f := pairA) (k := 2), hp]; omega
  have rp : ∀ f, f ≠ 0 → ∀ H, pcx (cbL tab) 64 [.int .u64 f, .sl 1 56 (encs pairA ps ++ rest) .ro] H = some (prRow 2 pairA (rdL f ps)) := fun f hf H => by
    have := slotsread f ps rest .ro hc ⟨hf, by omega, by omega, by omega⟩
    rw [row, hp] at this
    exact pcx_N rfl this
  obtain ⟨m, s, l, f, y, a, b, c⟩ := h
  obtain ⟨hum, hus, hul, huf, huy⟩ := hu
  dsimp only at hum hus hul huf huy
  simp only [wordsA, Hd.cells, List.cons_append, List.nil_append, ndOf]
  generalize hW : encs pairA ps ++ rest = W at *
  have sp := fun u H => spare_px a b c W u H hcr
  have pp := parts_px
  have em : nmark = 7522529147838689024 := rfl
  by_cases hab : a = 0 ∧ b = 0 ∧ c = 0
  case neg =>
    have hn : ¬ (Hd.mk m s l f y a b c).ok := fun k => hab k.2.2.2.2.2
    simp (disch := omega) only [wk, avalE, aactE, evPE, boundE, asNat, bv_seql cellsEq_ii, bv_sneqd cellsEq_ii, readC, allOne, fillL, resE, tupled, ↓reduceIte, Nat.reduceEqDiff, Int.reduceEq, Int.reduceLT, Int.reduceLE, Nat.reduceAdd, Nat.reduceMul, Nat.reduceLT, Nat.reduceLeDiff, reduceCtorEq, Int.reduceToNat, Int.reduceAdd, Int.reduceSub, Int.reduceMul, Int.reduceNeg, Nat.reduceSub, Nat.reduceDiv, sp, hab, hn]
    rw [ret_scp_goto rfl]
    refine ret_again (by decide) (.inl rfl) ?_
    simp (disch := omega) only [wk, avalE, aactE, evPE, boundE, asNat, bv_seql cellsEq_ii, bv_sneqd cellsEq_ii, readC, allOne, fillL, resE, tupled, ↓reduceIte, Nat.reduceEqDiff, Int.reduceEq, Int.reduceLT, Int.reduceLE, Nat.reduceAdd, Nat.reduceMul, Nat.reduceLT, Nat.reduceLeDiff, reduceCtorEq, nd0_av, hn, purify, unownT, lend, unown, AV.hf, hfL, Tk.hf]
  obtain ⟨rfl, rfl, rfl⟩ := hab
  simp (disch := omega) only [wk, avalE, aactE, evPE, boundE, asNat, bv_seql cellsEq_ii, bv_sneqd cellsEq_ii, readC, allOne, fillL, resE, tupled, ↓reduceIte, Nat.reduceEqDiff, Int.reduceEq, Int.reduceLT, Int.reduceLE, Nat.reduceAdd, Nat.reduceMul, Nat.reduceLT, Nat.reduceLeDiff, reduceCtorEq, Int.reduceToNat, Int.reduceAdd, Int.reduceSub, Int.reduceMul, Int.reduceNeg, Nat.reduceSub, Nat.reduceDiv, sp, pp]
  rw [ret_loop]
  have i96 := fun H => mark_ic (.ptr 0 0) m H rfl
  by_cases hm : nmark ≤ m ∧ m ≤ nmark + 12
  case neg =>
    have hn : ¬ (Hd.mk m s l f y 0 0 0).ok := fun k => hm ⟨k.1, k.2.1⟩
    simp (disch := omega) only [wk, avalE, aactE, evPE, boundE, asNat, bv_seql cellsEq_ii, bv_sneqd cellsEq_ii, readC, allOne, fillL, resE, tupled, ↓reduceIte, Nat.reduceEqDiff, Int.reduceEq, Int.reduceLT, Int.reduceLE, Nat.reduceAdd, Nat.reduceMul, Nat.reduceLT, Nat.reduceLeDiff, reduceCtorEq, partsA, Int.reduceToNat, Int.reduceAdd, Int.reduceSub, Int.reduceMul, Int.reduceNeg, Nat.reduceSub, Nat.reduceDiv, in_96, runE_none ll_96, i96, hm]
    rw [ret_scp_goto rfl]
    refine ret_again (by decide) (.inl rfl) ?_
    simp (disch := omega) only [wk, avalE, aactE, evPE, boundE, asNat, bv_seql cellsEq_ii, bv_sneqd cellsEq_ii, readC, allOne, fillL, resE, tupled, ↓reduceIte, Nat.reduceEqDiff, Int.reduceEq, Int.reduceLT, Int.reduceLE, Nat.reduceAdd, Nat.reduceMul, Nat.reduceLT, Nat.reduceLeDiff, reduceCtorEq, nd0_av, hn, purify, unownT, lend, unown, AV.hf, hfL, Tk.hf]
  have p97 := fun (T : Heap) c0 c1 c2 c3 c4 c5 => putm_ic 0 c0 c1 c2 c3 c4 c5 m (.cells [c0, c1, c2, c3, c4, c5] :: T) hm.1 hm.2 rfl
  simp (disch := omega) only [wk, avalE, aactE, evPE, boundE, asNat, bv_seql cellsEq_ii, bv_sneqd cellsEq_ii, readC, allOne, fillL, resE, tupled, ↓reduceIte, Nat.reduceEqDiff, Int.reduceEq, Int.reduceLT, Int.reduceLE, Nat.reduceAdd, Nat.reduceMul, Nat.reduceLT, Nat.reduceLeDiff, reduceCtorEq, partsA, Int.reduceToNat, Int.reduceAdd, Int.reduceSub, Int.reduceMul, Int.reduceNeg, Nat.reduceSub, Nat.reduceDiv, in_96, runE_none ll_96, i96, hm, in_97, runE_none ll_97, p97]
  refine ret_again (by decide) (.inl rfl) ?_
  rw [ret_loop]
  have i99 := fun H => sib_ic (.ptr 0 0) s H rfl
  by_cases hs : s ≤ 2047
  case neg =>
    have hn : ¬ (Hd.mk m s l f y 0 0 0).ok := fun k => hs k.2.2.1
    simp (disch := omega) only [wk, avalE, aactE, evPE, boundE, asNat, bv_seql cellsEq_ii, bv_sneqd cellsEq_ii, readC, allOne, fillL, resE, tupled, ↓reduceIte, Nat.reduceEqDiff, Int.reduceEq, Int.reduceLT, Int.reduceLE, Nat.reduceAdd, Nat.reduceMul, Nat.reduceLT, Nat.reduceLeDiff, reduceCtorEq, partsA, Int.reduceToNat, Int.reduceAdd, Int.reduceSub, Int.reduceMul, Int.reduceNeg, Nat.reduceSub, Nat.reduceDiv, in_99, runE_none ll_99, i99, hs]
    rw [ret_scp_goto rfl]
    refine ret_again (by decide) (.inl rfl) ?_
    simp (disch := omega) only [wk, avalE, aactE, evPE, boundE, asNat, bv_seql cellsEq_ii, bv_sneqd cellsEq_ii, readC, allOne, fillL, resE, tupled, ↓reduceIte, Nat.reduceEqDiff, Int.reduceEq, Int.reduceLT, Int.reduceLE, Nat.reduceAdd, Nat.reduceMul, Nat.reduceLT, Nat.reduceLeDiff, reduceCtorEq, nd0_av, hn, purify, unownT, lend, unown, AV.hf, hfL, Tk.hf]
  have p100 := fun (T : Heap) c0 c1 c2 c3 c4 c5 => puts_ic 0 c0 c1 c2 c3 c4 c5 s (.cells [c0, c1, c2, c3, c4, c5] :: T) hus.1 hs rfl
  simp (disch := omega) only [wk, avalE, aactE, evPE, boundE, asNat, bv_seql cellsEq_ii, bv_sneqd cellsEq_ii, readC, allOne, fillL, resE, tupled, ↓reduceIte, Nat.reduceEqDiff, Int.reduceEq, Int.reduceLT, Int.reduceLE, Nat.reduceAdd, Nat.reduceMul, Nat.reduceLT, Nat.reduceLeDiff, reduceCtorEq, partsA, Int.reduceToNat, Int.reduceAdd, Int.reduceSub, Int.reduceMul, Int.reduceNeg, Nat.reduceSub, Nat.reduceDiv, in_99, runE_none ll_99, i99, hs, in_100, runE_none ll_100, p100]
  refine ret_again (by decide) (.inl rfl) ?_
  rw [ret_loop]
  have i102 := fun H => low_ic (.ptr 0 0) l H rfl
  have p103 := fun (T : Heap) c0 c1 c2 c3 c4 c5 => putl_ic 0 c0 c1 c2 c3 c4 c5 l (.cells [c0, c1, c2, c3, c4, c5] :: T) rfl
  simp (disch := omega) only [wk, avalE, aactE, evPE, boundE, asNat, bv_seql cellsEq_ii, bv_sneqd cellsEq_ii, readC, allOne, fillL, resE, tupled, ↓reduceIte, Nat.reduceEqDiff, Int.reduceEq, Int.reduceLT, Int.reduceLE, Nat.reduceAdd, Nat.reduceMul, Nat.reduceLT, Nat.reduceLeDiff, reduceCtorEq, partsA, Int.reduceToNat, Int.reduceAdd, Int.reduceSub, Int.reduceMul, Int.reduceNeg, Nat.reduceSub, Nat.reduceDiv, in_102, runE_none ll_102, i102, in_103, runE_none ll_103, p103]
  refine ret_again (by decide) (.inl rfl) ?_
  rw [ret_loop]
  have i105 := fun (T : Heap) r => left_ic 0 (m - nmark) r f (.cells (.int .i64 (m - nmark) :: r) :: T) (by omega) rfl
  have hmk : m - nmark = 0 ↔ m = nmark := by omega
  by_cases hf : if m = nmark then f = leafL else blockI f
  case neg =>
    have hn : ¬ (Hd.mk m s l f y 0 0 0).ok := fun k => hf k.2.2.2.1
    simp only [hmk, hf, decide_false] at i105
    simp (disch := omega) only [wk, avalE, aactE, evPE, boundE, asNat, bv_seql cellsEq_ii, bv_sneqd cellsEq_ii, readC, allOne, fillL, resE, tupled, ↓reduceIte, Nat.reduceEqDiff, Int.reduceEq, Int.reduceLT, Int.reduceLE, Nat.reduceAdd, Nat.reduceMul, Nat.reduceLT, Nat.reduceLeDiff, reduceCtorEq, partsA, Int.reduceToNat, Int.reduceAdd, Int.reduceSub, Int.reduceMul, Int.reduceNeg, Nat.reduceSub, Nat.reduceDiv, in_105, runE_none ll_105, i105]
    rw [ret_scp_goto rfl]
    refine ret_again (by decide) (.inl rfl) ?_
    simp (disch := omega) only [wk, avalE, aactE, evPE, boundE, asNat, bv_seql cellsEq_ii, bv_sneqd cellsEq_ii, readC, allOne, fillL, resE, tupled, ↓reduceIte, Nat.reduceEqDiff, Int.reduceEq, Int.reduceLT, Int.reduceLE, Nat.reduceAdd, Nat.reduceMul, Nat.reduceLT, Nat.reduceLeDiff, reduceCtorEq, nd0_av, hn, purify, unownT, lend, unown, AV.hf, hfL, Tk.hf]
  simp only [hmk, hf, decide_true] at i105
  have p107 := fun (T : Heap) c0 c1 c2 c3 c4 c5 => putf_ic 0 c0 c1 c2 c3 c4 c5 f (.cells [c0, c1, c2, c3, c4, c5] :: T) rfl
  simp (disch := omega) only [wk, avalE, aactE, evPE, boundE, asNat, bv_seql cellsEq_ii, bv_sneqd cellsEq_ii, readC, allOne, fillL, resE, tupled, ↓reduceIte, Nat.reduceEqDiff, Int.reduceEq, Int.reduceLT, Int.reduceLE, Nat.reduceAdd, Nat.reduceMul, Nat.reduceLT, Nat.reduceLeDiff, reduceCtorEq, partsA, Int.reduceToNat, Int.reduceAdd, Int.reduceSub, Int.reduceMul, Int.reduceNeg, Nat.reduceSub, Nat.reduceDiv, in_105, runE_none ll_105, i105, in_107, runE_none ll_107, p107]
  refine ret_again (by decide) (.inl rfl) ?_
  rw [ret_loop]
  have i109 := fun H => way_ic (.ptr 0 0) y H rfl
  by_cases hy : y ≤ 2
  case neg =>
    have hn : ¬ (Hd.mk m s l f y 0 0 0).ok := fun k => hy k.2.2.2.2.1
    simp (disch := omega) only [wk, avalE, aactE, evPE, boundE, asNat, bv_seql cellsEq_ii, bv_sneqd cellsEq_ii, readC, allOne, fillL, resE, tupled, ↓reduceIte, Nat.reduceEqDiff, Int.reduceEq, Int.reduceLT, Int.reduceLE, Nat.reduceAdd, Nat.reduceMul, Nat.reduceLT, Nat.reduceLeDiff, reduceCtorEq, partsA, Int.reduceToNat, Int.reduceAdd, Int.reduceSub, Int.reduceMul, Int.reduceNeg, Nat.reduceSub, Nat.reduceDiv, in_109, runE_none ll_109, i109, hy]
    rw [ret_scp_goto rfl]
    refine ret_again (by decide) (.inl rfl) ?_
    simp (disch := omega) only [wk, avalE, aactE, evPE, boundE, asNat, bv_seql cellsEq_ii, bv_sneqd cellsEq_ii, readC, allOne, fillL, resE, tupled, ↓reduceIte, Nat.reduceEqDiff, Int.reduceEq, Int.reduceLT, Int.reduceLE, Nat.reduceAdd, Nat.reduceMul, Nat.reduceLT, Nat.reduceLeDiff, reduceCtorEq, nd0_av, hn, purify, unownT, lend, unown, AV.hf, hfL, Tk.hf]
  have p110 := fun (T : Heap) c0 c1 c2 c3 c4 c5 => puty_ic 0 c0 c1 c2 c3 c4 c5 y (.cells [c0, c1, c2, c3, c4, c5] :: T) huy.1 hy rfl
  simp (disch := omega) only [wk, avalE, aactE, evPE, boundE, asNat, bv_seql cellsEq_ii, bv_sneqd cellsEq_ii, readC, allOne, fillL, resE, tupled, ↓reduceIte, Nat.reduceEqDiff, Int.reduceEq, Int.reduceLT, Int.reduceLE, Nat.reduceAdd, Nat.reduceMul, Nat.reduceLT, Nat.reduceLeDiff, reduceCtorEq, partsA, Int.reduceToNat, Int.reduceAdd, Int.reduceSub, Int.reduceMul, Int.reduceNeg, Nat.reduceSub, Nat.reduceDiv, in_109, runE_none ll_109, i109, hy, in_110, runE_none ll_110, p110]
  refine ret_again (by decide) (.inl rfl) ?_
  rw [ret_loop]
  have hok : (Hd.mk m s l f y 0 0 0).ok := ⟨hm.1, hm.2, hs, hf, hy, rfl, rfl, rfl⟩
  have rp' := rp f (Hd.left hok)
  simp (disch := omega) only [wk, avalE, aactE, evPE, boundE, asNat, bv_seql cellsEq_ii, bv_sneqd cellsEq_ii, readC, allOne, fillL, resE, tupled, ↓reduceIte, Nat.reduceEqDiff, Int.reduceEq, Int.reduceLT, Int.reduceLE, Nat.reduceAdd, Nat.reduceMul, Nat.reduceLT, Nat.reduceLeDiff, reduceCtorEq, partsA, Int.reduceToNat, Int.reduceAdd, Int.reduceSub, Int.reduceMul, Int.reduceNeg, Nat.reduceSub, Nat.reduceDiv, rp', hok]
  refine runE_row (fun sz tk' H1 hz ho htk hup hle => ?_)
  have h1 := hup 0 _ rfl
  have u1' : ∀ k n, unown (.int k n) = .int k n := fun _ _ => rfl
  have hu := own_unown ho (fun s n c e => by cases e; exact htk rfl)
  have s0 : ∀ (o : AObj), (H1.set 0 o)[0]? = some o := fun o => set_eq h1
  have s1 : ∀ (o q : AObj), (H1.set 0 o).set 0 q = H1.set 0 q := fun o q => List.set_set ..
  have s2 : ∀ (o : AObj), ((H1.set 0 o).set 0 o)[0]? = some o := fun o => by rw [s1]; exact s0 o
  simp (disch := omega) only [wk, avalE, aactE, evPE, boundE, asNat, bv_seql cellsEq_ii, bv_sneqd cellsEq_ii, readC, allOne, fillL, resE, tupled, ↓reduceIte, Nat.reduceEqDiff, Int.reduceEq, Int.reduceLT, Int.reduceLE, Nat.reduceAdd, Nat.reduceMul, Nat.reduceLT, Nat.reduceLeDiff, reduceCtorEq, h1, s0, s1, s2]
  simp only [purify, unownT, List.map_cons, List.map_nil, lend, u1', hu, AV.hf, hfL, slvR_hf (f := pairA) (fun _ => rfl), Nd.av, Nd.cells, Bool.and_self, if_true]
end Go.Proofs.Ytailfegmnkldoaa
