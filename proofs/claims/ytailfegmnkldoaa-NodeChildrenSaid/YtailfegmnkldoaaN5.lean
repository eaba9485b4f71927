/- THE WALKS OF THE DOCUMENT'S Of, Right, Check, Same. No condition but those stated. -/
import Derived.Test.YtailfegmnkldoaaN4
import Derived.Test.YtailfegmnkldoaaR3
set_option linter.unusedSimpArgs false
set_option linter.unusedVariables false
set_option linter.unusedSectionVars false
namespace Go.Proofs.Ytailfegmnkldoaa
open Go Go.Am Go.Slots Go.Nod
set_option maxHeartbeats 8000000
set_option maxRecDepth 10000
theorem refblock_px (p : Int) (H : Heap) : pcx (cbL tab) 65 [.int .u64 p] H = some (.plain (.bool (decide (blockI p)))) := by
  refine pcx_N rfl (pc_wp (fi := c65) rfl rfl (by simp [c65]) (by decide) ?_)
  unfold c65
  by_cases h1 : 1 ≤ p
  · by_cases h2 : p ≤ 2047
    · have h : blockI p := ⟨h1, by omega⟩
      simp (disch := omega) only [wk, avalE, aactE, evPE, boundE, asNat, bv_seql cellsEq_ii, bv_sneqd cellsEq_ii, readC, allOne, fillL, resE, tupled, ↓reduceIte, Nat.reduceEqDiff, Int.reduceEq, Int.reduceLT, Int.reduceLE, Nat.reduceAdd, Nat.reduceMul, Nat.reduceLT, Nat.reduceLeDiff, reduceCtorEq, lend, unown, h1, h2, h, purify, unownT, lend, unown, AV.hf]
    · have h : ¬ blockI p := fun h => h2 (by have := h.2; omega)
      simp (disch := omega) only [wk, avalE, aactE, evPE, boundE, asNat, bv_seql cellsEq_ii, bv_sneqd cellsEq_ii, readC, allOne, fillL, resE, tupled, ↓reduceIte, Nat.reduceEqDiff, Int.reduceEq, Int.reduceLT, Int.reduceLE, Nat.reduceAdd, Nat.reduceMul, Nat.reduceLT, Nat.reduceLeDiff, reduceCtorEq, lend, unown, h1, h2, h, purify, unownT, lend, unown, AV.hf]
  · have h : ¬ blockI p := fun h => h1 h.1
    simp (disch := omega) only [wk, avalE, aactE, evPE, boundE, asNat, bv_seql cellsEq_ii, bv_sneqd cellsEq_ii, readC, allOne, fillL, resE, tupled, ↓reduceIte, Nat.reduceEqDiff, Int.reduceEq, Int.reduceLT, Int.reduceLE, Nat.reduceAdd, Nat.reduceMul, Nat.reduceLT, Nat.reduceLeDiff, reduceCtorEq, lend, unown, h1, h, purify, unownT, lend, unown, AV.hf]
def rightN (v p : Int) : Prop := if v = 0 then 1 ≤ p ∧ p ≤ 1099511627776 else blockI p
instance (v p : Int) : Decidable (rightN v p) := by unfold rightN; exact inferInstance
theorem refright_px (v p : Int) (H : Heap) : pcx (cbL tab) 67 [.int .i64 v, .int .u64 p] H = some (.plain (.bool (decide (rightN v p)))) := by
  refine pcx_N rfl (pc_wp (fi := c67) rfl rfl (by simp [c67]) (by decide) ?_)
  unfold c67
  have rb := refblock_px p
  by_cases hv : v = 0
  · by_cases h1 : 1 ≤ p
    · by_cases h2 : p ≤ 1099511627776
      · simp (disch := omega) only [wk, avalE, aactE, evPE, boundE, asNat, bv_seql cellsEq_ii, bv_sneqd cellsEq_ii, readC, allOne, fillL, resE, tupled, ↓reduceIte, Nat.reduceEqDiff, Int.reduceEq, Int.reduceLT, Int.reduceLE, Nat.reduceAdd, Nat.reduceMul, Nat.reduceLT, Nat.reduceLeDiff, reduceCtorEq, lend, unown, hv, h1, h2, rightN, purify, unownT, lend, unown, AV.hf]
      · simp (disch := omega) only [wk, avalE, aactE, evPE, boundE, asNat, bv_seql cellsEq_ii, bv_sneqd cellsEq_ii, readC, allOne, fillL, resE, tupled, ↓reduceIte, Nat.reduceEqDiff, Int.reduceEq, Int.reduceLT, Int.reduceLE, Nat.reduceAdd, Nat.reduceMul, Nat.reduceLT, Nat.reduceLeDiff, reduceCtorEq, lend, unown, hv, h1, h2, rightN, purify, unownT, lend, unown, AV.hf, and_false]
    · simp (disch := omega) only [wk, avalE, aactE, evPE, boundE, asNat, bv_seql cellsEq_ii, bv_sneqd cellsEq_ii, readC, allOne, fillL, resE, tupled, ↓reduceIte, Nat.reduceEqDiff, Int.reduceEq, Int.reduceLT, Int.reduceLE, Nat.reduceAdd, Nat.reduceMul, Nat.reduceLT, Nat.reduceLeDiff, reduceCtorEq, lend, unown, hv, h1, rightN, purify, unownT, lend, unown, AV.hf, false_and]
  · simp (disch := omega) only [wk, avalE, aactE, evPE, boundE, asNat, bv_seql cellsEq_ii, bv_sneqd cellsEq_ii, readC, allOne, fillL, resE, tupled, ↓reduceIte, Nat.reduceEqDiff, Int.reduceEq, Int.reduceLT, Int.reduceLE, Nat.reduceAdd, Nat.reduceMul, Nat.reduceLT, Nat.reduceLeDiff, reduceCtorEq, lend, unown, hv, rb, rightN, purify, unownT, lend, unown, AV.hf]
theorem okf {h : Hd} (k : h.ok) : (h.m = nmark → h.f = leafL) ∧ (h.m ≠ nmark → blockI h.f) := by
  obtain ⟨_, _, _, h4, _⟩ := k
  split at h4
  · rename_i e; exact ⟨fun _ => h4, fun ne => absurd e ne⟩
  · rename_i e; exact ⟨fun q => absurd q e, fun _ => h4⟩
theorem mkok {h : Hd} (h1 : nmark ≤ h.m) (h2 : h.m ≤ nmark + 12) (h3 : h.s ≤ 2047) (h4 : h.m = nmark → h.f = leafL) (h5 : h.m ≠ nmark → blockI h.f) (h6 : h.y ≤ 2) (a : h.a = 0) (b : h.b = 0) (c : h.c = 0) : h.ok := by
  refine ⟨h1, h2, h3, ?_, h6, a, b, c⟩
  split
  · rename_i e; exact h4 e
  · rename_i e; exact h5 e
theorem refof_len (n : Nat) (cs : List AV) (tk : Tk) (H : Heap) (hn : (n : Int) ≤ 9223372036854775807) (hc : hfL cs = true) (h : n ≠ 64) : pcx (cbL tab) 31 [.sl 1 n cs tk] H = some (.plain (.tup [nd0.av, .int .i64 210])) := by
  obtain ⟨u1, e1, f1⟩ := lend_sl 1 n cs tk
  refine pcx_N rfl (pc_wp (fi := c31) rfl ?_ (by simp [c31]) (by decide) ?_)
  · simp only [pcOn, List.map_cons, List.map_nil, hfL, hf_lend_sl, hf_lend_int, hf_lend_bool, hf_lend_str, hfL_append, Bool.and_self, Bool.and_true, Bool.true_and, c31, hc]
  unfold c31
  rw [List.map_cons, List.map_nil, e1]
  have h' : ¬ (n : Int) = 64 := by omega
  simp (disch := omega) only [wk, avalE, aactE, evPE, boundE, asNat, bv_seql cellsEq_ii, bv_sneqd cellsEq_ii, readC, allOne, fillL, resE, tupled, ↓reduceIte, Nat.reduceEqDiff, Int.reduceEq, Int.reduceLT, Int.reduceLE, Nat.reduceAdd, Nat.reduceMul, Nat.reduceLT, Nat.reduceLeDiff, reduceCtorEq, h', nd0_av, runG_un, purify, unownT, lend, unown, AV.hf, hfL, Tk.hf]
theorem refof_words (h : Hd) (hu : h.u) (ps : List (Int × Int)) (hp : ps.length = 28) (rest : List AV) (tk : Tk) (H : Heap) (hc : hfL rest = true) :
    pcx (cbL tab) 31 [.sl 1 64 (wordsA h ps rest) tk] H = some (.plain (.tup [if h.ok then (ndOf h ps).av else nd0.av, .int .i64 (if h.ok then 0 else 210)])) := by
  have hcs := hf_words h ps rest hc
  obtain ⟨u1, e1, f1⟩ := lend_sl 1 64 (wordsA h ps rest) tk
  refine pcx_N rfl (pc_wp (fi := c31) rfl ?_ (by simp [c31]) (by decide) ?_)
  · simp only [pcOn, List.map_cons, List.map_nil, hfL, hf_lend_sl, hf_lend_int, hf_lend_bool, hf_lend_str, hfL_append, Bool.and_self, Bool.and_true, Bool.true_and, c31, hcs]
  unfold c31
  rw [List.map_cons, List.map_nil, e1]
  have lw : 56 ≤ (encs pairA ps).length + rest.length := by rw [encs_length (f := pairA) (k := 2), hp]; omega
  have rp : ∀ f H, pcx (cbL tab) 35 [.int .u64 f, .sl 1 56 (encs pairA ps ++ rest) .ro] H = some (.plain (.tup [slvR 2 pairA (rdL f ps), slvR 1 intA (atL f 0 ps)])) := fun f H => by
    have := refread_px f ps rest .ro H (by omega) hc
    rwa [row, hp] at this
  obtain ⟨m, s, l, f, y, a, b, c⟩ := h
  obtain ⟨hum, hus, hul, huf, huy⟩ := hu
  dsimp only at hum hus hul huf huy
  simp only [wordsA, Hd.cells, List.cons_append, List.nil_append, ndOf]
  have em : nmark = 7522529147838689024 := rfl
  have el : leafL = 9223372036854775808 := rfl
  have rb := refblock_px f
  by_cases h1 : 7522529147838689024 ≤ m
  case neg =>
    have hn : ¬ (Hd.mk m s l f y a b c).ok := fun k => h1 k.1
    simp (disch := omega) only [wk, avalE, aactE, evPE, boundE, asNat, bv_seql cellsEq_ii, bv_sneqd cellsEq_ii, readC, allOne, fillL, resE, tupled, ↓reduceIte, Nat.reduceEqDiff, Int.reduceEq, Int.reduceLT, Int.reduceLE, Nat.reduceAdd, Nat.reduceMul, Nat.reduceLT, Nat.reduceLeDiff, reduceCtorEq, Int.reduceToNat, Int.reduceAdd, Int.reduceSub, Int.reduceMul, Int.reduceNeg, Nat.reduceSub, Nat.reduceDiv, h1, hn, nd0_av, runG_un, purify, unownT, lend, unown, AV.hf, hfL, Tk.hf]
  by_cases h2 : m ≤ 7522529147838689036
  case neg =>
    have hn : ¬ (Hd.mk m s l f y a b c).ok := fun k => h2 k.2.1
    simp (disch := omega) only [wk, avalE, aactE, evPE, boundE, asNat, bv_seql cellsEq_ii, bv_sneqd cellsEq_ii, readC, allOne, fillL, resE, tupled, ↓reduceIte, Nat.reduceEqDiff, Int.reduceEq, Int.reduceLT, Int.reduceLE, Nat.reduceAdd, Nat.reduceMul, Nat.reduceLT, Nat.reduceLeDiff, reduceCtorEq, Int.reduceToNat, Int.reduceAdd, Int.reduceSub, Int.reduceMul, Int.reduceNeg, Nat.reduceSub, Nat.reduceDiv, h1, h2, hn, nd0_av, runG_un, purify, unownT, lend, unown, AV.hf, hfL, Tk.hf]
  by_cases h3 : s ≤ 2047
  case neg =>
    have hn : ¬ (Hd.mk m s l f y a b c).ok := fun k => h3 k.2.2.1
    simp (disch := omega) only [wk, avalE, aactE, evPE, boundE, asNat, bv_seql cellsEq_ii, bv_sneqd cellsEq_ii, readC, allOne, fillL, resE, tupled, ↓reduceIte, Nat.reduceEqDiff, Int.reduceEq, Int.reduceLT, Int.reduceLE, Nat.reduceAdd, Nat.reduceMul, Nat.reduceLT, Nat.reduceLeDiff, reduceCtorEq, Int.reduceToNat, Int.reduceAdd, Int.reduceSub, Int.reduceMul, Int.reduceNeg, Nat.reduceSub, Nat.reduceDiv, h1, h2, h3, hn, nd0_av, runG_un, purify, unownT, lend, unown, AV.hf, hfL, Tk.hf]
  by_cases h4 : y ≤ 2
  case neg =>
    have hn : ¬ (Hd.mk m s l f y a b c).ok := fun k => h4 k.2.2.2.2.1
    simp (disch := omega) only [wk, avalE, aactE, evPE, boundE, asNat, bv_seql cellsEq_ii, bv_sneqd cellsEq_ii, readC, allOne, fillL, resE, tupled, ↓reduceIte, Nat.reduceEqDiff, Int.reduceEq, Int.reduceLT, Int.reduceLE, Nat.reduceAdd, Nat.reduceMul, Nat.reduceLT, Nat.reduceLeDiff, reduceCtorEq, Int.reduceToNat, Int.reduceAdd, Int.reduceSub, Int.reduceMul, Int.reduceNeg, Nat.reduceSub, Nat.reduceDiv, h1, h2, h3, h4, hn, nd0_av, runG_un, purify, unownT, lend, unown, AV.hf, hfL, Tk.hf]
  by_cases h5 : a = 0
  case neg =>
    have hn : ¬ (Hd.mk m s l f y a b c).ok := fun k => h5 k.2.2.2.2.2.1
    simp (disch := omega) only [wk, avalE, aactE, evPE, boundE, asNat, bv_seql cellsEq_ii, bv_sneqd cellsEq_ii, readC, allOne, fillL, resE, tupled, ↓reduceIte, Nat.reduceEqDiff, Int.reduceEq, Int.reduceLT, Int.reduceLE, Nat.reduceAdd, Nat.reduceMul, Nat.reduceLT, Nat.reduceLeDiff, reduceCtorEq, Int.reduceToNat, Int.reduceAdd, Int.reduceSub, Int.reduceMul, Int.reduceNeg, Nat.reduceSub, Nat.reduceDiv, h1, h2, h3, h4, h5, hn, nd0_av, runG_un, purify, unownT, lend, unown, AV.hf, hfL, Tk.hf]
  subst h5
  by_cases h6 : b = 0
  case neg =>
    have hn : ¬ (Hd.mk m s l f y 0 b c).ok := fun k => h6 k.2.2.2.2.2.2.1
    simp (disch := omega) only [wk, avalE, aactE, evPE, boundE, asNat, bv_seql cellsEq_ii, bv_sneqd cellsEq_ii, readC, allOne, fillL, resE, tupled, ↓reduceIte, Nat.reduceEqDiff, Int.reduceEq, Int.reduceLT, Int.reduceLE, Nat.reduceAdd, Nat.reduceMul, Nat.reduceLT, Nat.reduceLeDiff, reduceCtorEq, Int.reduceToNat, Int.reduceAdd, Int.reduceSub, Int.reduceMul, Int.reduceNeg, Nat.reduceSub, Nat.reduceDiv, h1, h2, h3, h4, h6, hn, nd0_av, runG_un, purify, unownT, lend, unown, AV.hf, hfL, Tk.hf]
  subst h6
  by_cases h7 : c = 0
  case neg =>
    have hn : ¬ (Hd.mk m s l f y 0 0 c).ok := fun k => h7 k.2.2.2.2.2.2.2
    simp (disch := omega) only [wk, avalE, aactE, evPE, boundE, asNat, bv_seql cellsEq_ii, bv_sneqd cellsEq_ii, readC, allOne, fillL, resE, tupled, ↓reduceIte, Nat.reduceEqDiff, Int.reduceEq, Int.reduceLT, Int.reduceLE, Nat.reduceAdd, Nat.reduceMul, Nat.reduceLT, Nat.reduceLeDiff, reduceCtorEq, Int.reduceToNat, Int.reduceAdd, Int.reduceSub, Int.reduceMul, Int.reduceNeg, Nat.reduceSub, Nat.reduceDiv, h1, h2, h3, h4, h7, hn, nd0_av, runG_un, purify, unownT, lend, unown, AV.hf, hfL, Tk.hf]
  subst h7
  have w1 : ∀ k : IntKind, True := fun _ => trivial
  by_cases hm : m = 7522529147838689024
  · subst hm
    by_cases hf : f = 9223372036854775808
    · subst hf
      have hok : (Hd.mk 7522529147838689024 s l 9223372036854775808 y 0 0 0).ok := mkok (Int.le_refl _) (by show (7522529147838689024 : Int) ≤ 7522529147838689024 + 12; decide) h3 (fun _ => rfl) (fun e => absurd rfl e) h4 rfl rfl rfl
      simp (disch := omega) only [wk, avalE, aactE, evPE, boundE, asNat, bv_seql cellsEq_ii, bv_sneqd cellsEq_ii, readC, allOne, fillL, resE, tupled, ↓reduceIte, Nat.reduceEqDiff, Int.reduceEq, Int.reduceLT, Int.reduceLE, Nat.reduceAdd, Nat.reduceMul, Nat.reduceLT, Nat.reduceLeDiff, reduceCtorEq, Int.reduceToNat, Int.reduceAdd, Int.reduceSub, Int.reduceMul, Int.reduceNeg, Nat.reduceSub, Nat.reduceDiv, h3, h4, hok, em, rp, runG_un]
      simp only [purify, unownT, List.map_cons, List.map_nil, lend, unown_i, slvR_unown, AV.hf, hfL, slvR_hf (f := pairA) (fun _ => rfl), Nd.av, Nd.cells, Bool.and_self, if_true]
    · have hn : ¬ (Hd.mk 7522529147838689024 s l f y 0 0 0).ok := fun k => hf ((okf k).1 rfl)
      simp (disch := omega) only [wk, avalE, aactE, evPE, boundE, asNat, bv_seql cellsEq_ii, bv_sneqd cellsEq_ii, readC, allOne, fillL, resE, tupled, ↓reduceIte, Nat.reduceEqDiff, Int.reduceEq, Int.reduceLT, Int.reduceLE, Nat.reduceAdd, Nat.reduceMul, Nat.reduceLT, Nat.reduceLeDiff, reduceCtorEq, Int.reduceToNat, Int.reduceAdd, Int.reduceSub, Int.reduceMul, Int.reduceNeg, Nat.reduceSub, Nat.reduceDiv, h3, h4, hf, hn, nd0_av, runG_un, purify, unownT, lend, unown, AV.hf, hfL, Tk.hf]
  · have hv : ¬ m - 7522529147838689024 = 0 := by omega
    have hv2 : m - 7522529147838689024 > 0 := by omega
    by_cases hf : blockI f
    · have hok : (Hd.mk m s l f y 0 0 0).ok := mkok h1 (by show m ≤ nmark + 12; rw [em]; omega) h3 (fun e => absurd e hm) (fun _ => hf) h4 rfl rfl rfl
      simp only [hf, decide_true] at rb
      simp (disch := omega) only [wk, avalE, aactE, evPE, boundE, asNat, bv_seql cellsEq_ii, bv_sneqd cellsEq_ii, readC, allOne, fillL, resE, tupled, ↓reduceIte, Nat.reduceEqDiff, Int.reduceEq, Int.reduceLT, Int.reduceLE, Nat.reduceAdd, Nat.reduceMul, Nat.reduceLT, Nat.reduceLeDiff, reduceCtorEq, Int.reduceToNat, Int.reduceAdd, Int.reduceSub, Int.reduceMul, Int.reduceNeg, Nat.reduceSub, Nat.reduceDiv, h1, h2, h3, h4, hv, hv2, rb, hok, em, rp, runG_un]
      simp only [purify, unownT, List.map_cons, List.map_nil, lend, unown_i, slvR_unown, AV.hf, hfL, slvR_hf (f := pairA) (fun _ => rfl), Nd.av, Nd.cells, Bool.and_self, if_true]
    · have hn : ¬ (Hd.mk m s l f y 0 0 0).ok := fun k => hf ((okf k).2 hm)
      simp only [hf, decide_false] at rb
      simp (disch := omega) only [wk, avalE, aactE, evPE, boundE, asNat, bv_seql cellsEq_ii, bv_sneqd cellsEq_ii, readC, allOne, fillL, resE, tupled, ↓reduceIte, Nat.reduceEqDiff, Int.reduceEq, Int.reduceLT, Int.reduceLE, Nat.reduceAdd, Nat.reduceMul, Nat.reduceLT, Nat.reduceLeDiff, reduceCtorEq, Int.reduceToNat, Int.reduceAdd, Int.reduceSub, Int.reduceMul, Int.reduceNeg, Nat.reduceSub, Nat.reduceDiv, h1, h2, h3, h4, hv, hv2, rb, hn, nd0_av, runG_un, purify, unownT, lend, unown, AV.hf, hfL, Tk.hf]
theorem refsame_px (a b : Nd) (ha : a.ps.length ≤ 1000) (H : Heap) : pcx (cbL tab) 32 [a.av, b.av] H = some (.plain (.bool (decide (a.v = b.v ∧ a.s = b.s ∧ a.l = b.l ∧ a.f = b.f ∧ a.y = b.y ∧ a.ps = b.ps)))) := by
  refine pcx_N rfl (pc_wp (fi := c32) rfl ?_ (by simp [c32]) (by decide) ?_)
  · simp only [pcOn, c32, List.map_cons, List.map_nil, lend_Nd, hfL, hf_Nd, Bool.true_and]
  unfold c32
  rw [List.map_cons, List.map_cons, List.map_nil, lend_Nd, lend_Nd]
  have sv : ∀ l : List (Int × Int), ∃ (z : Nat) (k : Tk), slvR 2 pairA l = .sl z l.length (encs pairA l) k ∧ (l ≠ [] → z = 2) := by
    intro l
    unfold slvR
    split
    · rename_i he
      exact ⟨0, .z, rfl, fun hne => absurd (List.isEmpty_iff.1 he) hne⟩
    · exact ⟨2, .ro, rfl, fun _ => rfl⟩
  have o1 := slvR_one (sz := 2) (f := pairA) a.ps
  have o2 := slvR_one (sz := 2) (f := pairA) b.ps
  obtain ⟨v, s, l, f, y, ps⟩ := a
  obtain ⟨v', s', l', f', y', ps'⟩ := b
  dsimp only at o1 o2 ha
  obtain ⟨z1, k1, e1, hz1⟩ := sv ps
  obtain ⟨z2, k2, e2, hz2⟩ := sv ps'
  have sp := fun H => pcx_N (H := H) rfl (samePairs_pc ps ps' z1 z2 k1 k2 hz1 hz2 (by omega))
  simp only [Nd.av, Nd.cells]
  rw [e1] at o1 ⊢
  rw [e2] at o2 ⊢
  by_cases h1 : v = v'
  case neg => simp (disch := omega) only [wk, avalE, aactE, evPE, boundE, asNat, bv_seql cellsEq_ii, bv_sneqd cellsEq_ii, readC, allOne, fillL, resE, tupled, ↓reduceIte, Nat.reduceEqDiff, Int.reduceEq, Int.reduceLT, Int.reduceLE, Nat.reduceAdd, Nat.reduceMul, Nat.reduceLT, Nat.reduceLeDiff, reduceCtorEq, o1, o2, h1, runG_un, purify, unownT, lend, unown, AV.hf, false_and]
  by_cases h2 : s = s'
  case neg => simp (disch := omega) only [wk, avalE, aactE, evPE, boundE, asNat, bv_seql cellsEq_ii, bv_sneqd cellsEq_ii, readC, allOne, fillL, resE, tupled, ↓reduceIte, Nat.reduceEqDiff, Int.reduceEq, Int.reduceLT, Int.reduceLE, Nat.reduceAdd, Nat.reduceMul, Nat.reduceLT, Nat.reduceLeDiff, reduceCtorEq, o1, o2, h1, h2, runG_un, purify, unownT, lend, unown, AV.hf, false_and, and_false]
  by_cases h3 : l = l'
  case neg => simp (disch := omega) only [wk, avalE, aactE, evPE, boundE, asNat, bv_seql cellsEq_ii, bv_sneqd cellsEq_ii, readC, allOne, fillL, resE, tupled, ↓reduceIte, Nat.reduceEqDiff, Int.reduceEq, Int.reduceLT, Int.reduceLE, Nat.reduceAdd, Nat.reduceMul, Nat.reduceLT, Nat.reduceLeDiff, reduceCtorEq, o1, o2, h1, h2, h3, runG_un, purify, unownT, lend, unown, AV.hf, false_and, and_false]
  by_cases h4 : f = f'
  case neg => simp (disch := omega) only [wk, avalE, aactE, evPE, boundE, asNat, bv_seql cellsEq_ii, bv_sneqd cellsEq_ii, readC, allOne, fillL, resE, tupled, ↓reduceIte, Nat.reduceEqDiff, Int.reduceEq, Int.reduceLT, Int.reduceLE, Nat.reduceAdd, Nat.reduceMul, Nat.reduceLT, Nat.reduceLeDiff, reduceCtorEq, o1, o2, h1, h2, h3, h4, runG_un, purify, unownT, lend, unown, AV.hf, false_and, and_false]
  by_cases h5 : y = y'
  case neg => simp (disch := omega) only [wk, avalE, aactE, evPE, boundE, asNat, bv_seql cellsEq_ii, bv_sneqd cellsEq_ii, readC, allOne, fillL, resE, tupled, ↓reduceIte, Nat.reduceEqDiff, Int.reduceEq, Int.reduceLT, Int.reduceLE, Nat.reduceAdd, Nat.reduceMul, Nat.reduceLT, Nat.reduceLeDiff, reduceCtorEq, o1, o2, h1, h2, h3, h4, h5, runG_un, purify, unownT, lend, unown, AV.hf, false_and, and_false]
  simp (disch := omega) only [wk, avalE, aactE, evPE, boundE, asNat, bv_seql cellsEq_ii, bv_sneqd cellsEq_ii, readC, allOne, fillL, resE, tupled, ↓reduceIte, Nat.reduceEqDiff, Int.reduceEq, Int.reduceLT, Int.reduceLE, Nat.reduceAdd, Nat.reduceMul, Nat.reduceLT, Nat.reduceLeDiff, reduceCtorEq, o1, o2, h1, h2, h3, h4, h5, sp, runG_un, purify, unownT, lend, unown, AV.hf]
end Go.Proofs.Ytailfegmnkldoaa
