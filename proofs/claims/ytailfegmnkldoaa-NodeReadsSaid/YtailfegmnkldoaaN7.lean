/- THE WALKS OF THE DOCUMENT'S Of, Right, Check, Same. No condition but those stated. -/
import Derived.Test.YtailfegmnkldoaaN4
import Derived.Test.YtailfegmnkldoaaR3
set_option linter.unusedSimpArgs false
set_option linter.unusedVariables false
set_option linter.unusedSectionVars false
namespace Go.Proofs.Ytailfegmnkldoaa
open Go Go.Am Go.Slots Go.Nod
set_option maxHeartbeats 8000000
set_option maxRecDepth 10000
theorem refblock_px (p : Int) (H : Heap) : pcx (cbL tab) 65 [.int .u64 p] H = some (.plain (.bool (decide (blockI p)))) := by
  refine pcx_N rfl (pc_wp (fi := c65) rfl rfl (by simp [c65]) (by decide) ?_)
  unfold c65
  by_cases h1 : 1 ≤ p
  · by_cases h2 : p ≤ 2047
    · have h : blockI p := ⟨h1, by omega⟩
      simp (disch := omega) only [wk, avalE, aactE, evPE, boundE, asNat, bv_seql cellsEq_ii, bv_sneqd cellsEq_ii, readC, allOne, fillL, resE, tupled, ↓reduceIte, Nat.reduceEqDiff, Int.reduceEq, Int.reduceLT, Int.reduceLE, Nat.reduceAdd, Nat.reduceMul, Nat.reduceLT, Nat.reduceLeDiff, reduceCtorEq, lend, unown, h1, h2, h, purify, unownT, lend, unown, AV.hf]
    · have h : ¬ blockI p := fun h => h2 (by have := h.2; omega)
      simp (disch := omega) only [wk, avalE, aactE, evPE, boundE, asNat, bv_seql cellsEq_ii, bv_sneqd cellsEq_ii, readC, allOne, fillL, resE, tupled, ↓reduceIte, Nat.reduceEqDiff, Int.reduceEq, Int.reduceLT, Int.reduceLE, Nat.reduceAdd, Nat.reduceMul, Nat.reduceLT, Nat.reduceLeDiff, reduceCtorEq, lend, unown, h1, h2, h, purify, unownT, lend, unown, AV.hf]
  · have h : ¬ blockI p := fun h => h1 h.1
    simp (disch := omega) only [wk, avalE, aactE, evPE, boundE, asNat, bv_seql cellsEq_ii, bv_sneqd cellsEq_ii, readC, allOne, fillL, resE, tupled, ↓reduceIte, Nat.reduceEqDiff, Int.reduceEq, Int.reduceLT, Int.reduceLE, Nat.reduceAdd, Nat.reduceMul, Nat.reduceLT, Nat.reduceLeDiff, reduceCtorEq, lend, unown, h1, h, purify, unownT, lend, unown, AV.hf]
def rightN (v p : Int) : Prop := if v = 0 then 1 ≤ p ∧ p ≤ 1099511627776 else blockI p
instance (v p : Int) : Decidable (rightN v p) := by unfold rightN; exact inferInstance
theorem refright_px (v p : Int) (H : Heap) : pcx (cbL tab) 67 [.int .i64 v, .int .u64 p] H = some (.plain (.bool (decide (rightN v p)))) := by
  refine pcx_N rfl (pc_wp (fi := c67) rfl rfl (by simp [c67]) (by decide) ?_)
  unfold c67
  have rb := refblock_px p
  by_cases hv : v = 0
  · by_cases h1 : 1 ≤ p
    · by_cases h2 : p ≤ 1099511627776
      · simp (disch := omega) only [wk, avalE, aactE, evPE, boundE, asNat, bv_seql cellsEq_ii, bv_sneqd cellsEq_ii, readC, allOne, fillL, resE, tupled, ↓reduceIte, Nat.reduceEqDiff, Int.reduceEq, Int.reduceLT, Int.reduceLE, Nat.reduceAdd, Nat.reduceMul, Nat.reduceLT, Nat.reduceLeDiff, reduceCtorEq, lend, unown, hv, h1, h2, rightN, purify, unownT, lend, unown, AV.hf]
      · simp (disch := omega) only [wk, avalE, aactE, evPE, boundE, asNat, bv_seql cellsEq_ii, bv_sneqd cellsEq_ii, readC, allOne, fillL, resE, tupled, ↓reduceIte, Nat.reduceEqDiff, Int.reduceEq, Int.reduceLT, Int.reduceLE, Nat.reduceAdd, Nat.reduceMul, Nat.reduceLT, Nat.reduceLeDiff, reduceCtorEq, lend, unown, hv, h1, h2, rightN, purify, unownT, lend, unown, AV.hf, and_false]
    · simp (disch := omega) only [wk, avalE, aactE, evPE, boundE, asNat, bv_seql cellsEq_ii, bv_sneqd cellsEq_ii, readC, allOne, fillL, resE, tupled, ↓reduceIte, Nat.reduceEqDiff, Int.reduceEq, Int.reduceLT, Int.reduceLE, Nat.reduceAdd, Nat.reduceMul, Nat.reduceLT, Nat.reduceLeDiff, reduceCtorEq, lend, unown, hv, h1, rightN, purify, unownT, lend, unown, AV.hf, false_and]
  · simp (disch := omega) only [wk, avalE, aactE, evPE, boundE, asNat, bv_seql cellsEq_ii, bv_sneqd cellsEq_ii, readC, allOne, fillL, resE, tupled, ↓reduceIte, Nat.reduceEqDiff, Int.reduceEq, Int.reduceLT, Int.reduceLE, Nat.reduceAdd, Nat.reduceMul, Nat.reduceLT, Nat.reduceLeDiff, reduceCtorEq, lend, unown, hv, rb, rightN, purify, unownT, lend, unown, AV.hf]
theorem okf {h : Hd} (k : h.ok) : (h.m = nmark → h.f = leafL) ∧ (h.m ≠ nmark → blockI h.f) := by
  obtain ⟨_, _, _, h4, _⟩ := k
  split at h4
  · rename_i e; exact ⟨fun _ => h4, fun ne => absurd e ne⟩
  · rename_i e; exact ⟨fun q => absurd q e, fun _ => h4⟩
theorem mkok {h : Hd} (h1 : nmark ≤ h.m) (h2 : h.m ≤ nmark + 12) (h3 : h.s ≤ 2047) (h4 : h.m = nmark → h.f = leafL) (h5 : h.m ≠ nmark → blockI h.f) (h6 : h.y ≤ 2) (a : h.a = 0) (b : h.b = 0) (c : h.c = 0) : h.ok := by
  refine ⟨h1, h2, h3, ?_, h6, a, b, c⟩
  split
  · rename_i e; exact h4 e
  · rename_i e; exact h5 e
theorem refof_len (n : Nat) (cs : List AV) (tk : Tk) (H : Heap) (hn : (n : Int) ≤ 9223372036854775807) (hc : hfL cs = true) (h : n ≠ 64) : pcx (cbL tab) 31 [.sl 1 n cs tk] H = some (.plain (.tup [nd0.av, .int .i64 210])) := by
  obtain ⟨u1, e1, f1⟩ := lend_sl 1 n cs tk
  refine pcx_N rfl (pc_wp (fi := c31) rfl ?_ (by simp [c31]) (by decide) ?_)
  · simp only [pcOn, List.map_cons, List.map_nil, hfL, hf_lend_sl, hf_lend_int, hf_lend_bool, hf_lend_str, hfL_append, Bool.and_self, Bool.and_true, Bool.true_and, c31, hc]
  unfold c31
  rw [List.map_cons, List.map_nil, e1]
  have h' : ¬ (n : Int) = 64 := by omega
  simp (disch := omega) only [wk, avalE, aactE, evPE, boundE, asNat, bv_seql cellsEq_ii, bv_sneqd cellsEq_ii, readC, allOne, fillL, resE, tupled, ↓reduceIte, Nat.reduceEqDiff, Int.reduceEq, Int.reduceLT, Int.reduceLE, Nat.reduceAdd, Nat.reduceMul, Nat.reduceLT, Nat.reduceLeDiff, reduceCtorEq, h', nd0_av, runG_un, purify, unownT, lend, unown, AV.hf, hfL, Tk.hf]
theorem refof_words (h : Hd) (hu : h.u) (ps : List (Int × Int)) (hp : ps.length = 28) (rest : List AV) (tk : Tk) (H : Heap) (hc : hfL rest = true) :
    pcx (cbL tab) 31 [.sl 1 64 (wordsA h ps rest) tk] H = some (.plain (.tup [if h.ok then (ndOf h ps).av else nd0.av, .int .i64 (if h.ok then 0 else 210)])) := by
  have hcs := hf_words h ps rest hc
  obtain ⟨u1, e1, f1⟩ := lend_sl 1 64 (wordsA h ps rest) tk
  refine pcx_N rfl (pc_wp (fi := c31) rfl ?_ (by simp [c31]) (by decide) ?_)
  · simp only [pcOn, List.map_cons, List.map_nil, hfL, hf_lend_sl, hf_lend_int, hf_lend_bool, hf_lend_str, hfL_append, Bool.and_self, Bool.and_true, Bool.true_and, c31, hcs]
  unfold c31
  rw [List.map_cons, List.map_nil, e1]
  have lw : 56 ≤ (encs pairA ps).length + rest.length := by rw [encs_length (f := pairA) (k := 2), hp]; omega
  have rp : ∀ f H, pcx (cbL tab) 35 [.int .u64 f, .sl 1 56 (encs pairA ps ++ rest) .ro] H = some (.plain (.tup [slvR 2 pairA (rdL f ps), slvR 1 intA (atL f 0 ps)])) := fun f H => by
    have := refread_px f ps rest .ro H (by omega) hc
    rwa [row, hp] at this
  obtain ⟨m, s, l, f, y, a, b, c⟩ := h
  obtain ⟨hum, hus, hul, huf, huy⟩ := hu
  dsimp only at hum hus hul huf huy
  simp only [wordsA, Hd.cells, List.cons_append, List.nil_append, ndOf]
  have em : nmark = 7522529147838689024 := rfl
  have el : leafL = 9223372036854775808 := rfl
  have rb := refblock_px f
  by_cases h1 : 7522529147838689024 ≤ m
  case neg =>
    have hn : ¬ (Hd.mk m s l f y a b c).ok := fun k => h1 k.1
    simp (disch := omega) only [wk, avalE, aactE, evPE, boundE, asNat, bv_seql cellsEq_ii, bv_sneqd cellsEq_ii, readC, allOne, fillL, resE, tupled, ↓reduceIte, Nat.reduceEqDiff, Int.reduceEq, Int.reduceLT, Int.reduceLE, Nat.reduceAdd, Nat.reduceMul, Nat.reduceLT, Nat.reduceLeDiff, reduceCtorEq, Int.reduceToNat, Int.reduceAdd, Int.reduceSub, Int.reduceMul, Int.reduceNeg, Nat.reduceSub, Nat.reduceDiv, h1, hn, nd0_av, runG_un, purify, unownT, lend, unown, AV.hf, hfL, Tk.hf]
  by_cases h2 : m ≤ 7522529147838689036
  case neg =>
    have hn : ¬ (Hd.mk m s l f y a b c).ok := fun k => h2 k.2.1
    simp (disch := omega) only [wk, avalE, aactE, evPE, boundE, asNat, bv_seql cellsEq_ii, bv_sneqd cellsEq_ii, readC, allOne, fillL, resE, tupled, ↓reduceIte, Nat.reduceEqDiff, Int.reduceEq, Int.reduceLT, Int.reduceLE, Nat.reduceAdd, Nat.reduceMul, Nat.reduceLT, Nat.reduceLeDiff, reduceCtorEq, Int.reduceToNat, Int.reduceAdd, Int.reduceSub, Int.reduceMul, Int.reduceNeg, Nat.reduceSub, Nat.reduceDiv, h1, h2, hn, nd0_av, runG_un, purify, unownT, lend, unown, AV.hf, hfL, Tk.hf]
  by_cases h3 : s ≤ 2047
  case neg =>
    have hn : ¬ (Hd.mk m s l f y a b c).ok := fun k => h3 k.2.2.1
    simp (disch := omega) only [wk, avalE, aactE, evPE, boundE, asNat, bv_seql cellsEq_ii, bv_sneqd cellsEq_ii, readC, allOne, fillL, resE, tupled, ↓reduceIte, Nat.reduceEqDiff, Int.reduceEq, Int.reduceLT, Int.reduceLE, Nat.reduceAdd, Nat.reduceMul, Nat.reduceLT, Nat.reduceLeDiff, reduceCtorEq, Int.reduceToNat, Int.reduceAdd, Int.reduceSub, Int.reduceMul, Int.reduceNeg, Nat.reduceSub, Nat.reduceDiv, h1, h2, h3, hn, nd0_av, runG_un, purify, unownT, lend, unown, AV.hf, hfL, Tk.hf]
  by_cases h4 : y ≤ 2
  case neg =>
    have hn : ¬ (Hd.mk m s l f y a b c).ok := fun k => h4 k.2.2.2.2.1
    simp (disch := omega) only [wk, avalE, aactE, evPE, boundE, asNat, bv_seql cellsEq_ii, bv_sneqd cellsEq_ii, readC, allOne, fillL, resE, tupled, ↓reduceIte, Nat.reduceEqDiff, Int.reduceEq, Int.reduceLT, Int.reduceLE, Nat.reduceAdd, Nat.reduceMul, Nat.reduceLT, Nat.reduceLeDiff, reduceCtorEq, Int.reduceToNat, Int.reduceAdd, Int.reduceSub, Int.reduceMul, Int.reduceNeg, Nat.reduceSub, Nat.reduceDiv, h1, h2, h3, h4, hn, nd0_av, runG_un, purify, unownT, lend, unown, AV.hf, hfL, Tk.hf]
  by_cases h5 : a = 0
  case neg =>
    have hn : ¬ (Hd.mk m s l f y a b c).ok := fun k => h5 k.2.2.2.2.2.1
    simp (disch := omega) only [wk, avalE, aactE, evPE, boundE, asNat, bv_seql cellsEq_ii, bv_sneqd cellsEq_ii, readC, allOne, fillL, resE, tupled, ↓reduceIte, Nat.reduceEqDiff, Int.reduceEq, Int.reduceLT, Int.reduceLE, Nat.reduceAdd, Nat.reduceMul, Nat.reduceLT, Nat.reduceLeDiff, reduceCtorEq, Int.reduceToNat, Int.reduceAdd, Int.reduceSub, Int.reduceMul, Int.reduceNeg, Nat.reduceSub, Nat.reduceDiv, h1, h2, h3, h4, h5, hn, nd0_av, runG_un, purify, unownT, lend, unown, AV.hf, hfL, Tk.hf]
  subst h5
  by_cases h6 : b = 0
  case neg =>
    have hn : ¬ (Hd.mk m s l f y 0 b c).ok := fun k => h6 k.2.2.2.2.2.2.1
    simp (disch := omega) only [wk, avalE, aactE, evPE, boundE, asNat, bv_seql cellsEq_ii, bv_sneqd cellsEq_ii, readC, allOne, fillL, resE, tupled, ↓reduceIte, Nat.reduceEqDiff, Int.reduceEq, Int.reduceLT, Int.reduceLE, Nat.reduceAdd, Nat.reduceMul, Nat.reduceLT, Nat.reduceLeDiff, reduceCtorEq, Int.reduceToNat, Int.reduceAdd, Int.reduceSub, Int.reduceMul, Int.reduceNeg, Nat.reduceSub, Nat.reduceDiv, h1, h2, h3, h4, h6, hn, nd0_av, runG_un, purify, unownT, lend, unown, AV.hf, hfL, Tk.hf]
  subst h6
  by_cases h7 : c = 0
  case neg =>
    have hn : ¬ (Hd.mk m s l f y 0 0 c).ok := fun k => h7 k.2.2.2.2.2.2.2
    simp (disch := omega) only [wk, avalE, aactE, evPE, boundE, asNat, bv_seql cellsEq_ii, bv_sneqd cellsEq_ii, readC, allOne, fillL, resE, tupled, ↓reduceIte, Nat.reduceEqDiff, Int.reduceEq, Int.reduceLT, Int.reduceLE, Nat.reduceAdd, Nat.reduceMul, Nat.reduceLT, Nat.reduceLeDiff, reduceCtorEq, Int.reduceToNat, Int.reduceAdd, Int.reduceSub, Int.reduceMul, Int.reduceNeg, Nat.reduceSub, Nat.reduceDiv, h1, h2, h3, h4, h7, hn, nd0_av, runG_un, purify, unownT, lend, unown, AV.hf, hfL, Tk.hf]
  subst h7
  have w1 : ∀ k : IntKind, True := fun _ => trivial
  by_cases hm : m = 7522529147838689024
  · subst hm
    by_cases hf : f = 9223372036854775808
    · subst hf
      have hok : (Hd.mk 7522529147838689024 s l 9223372036854775808 y 0 0 0).ok := mkok (Int.le_refl _) (by show (7522529147838689024 : Int) ≤ 7522529147838689024 + 12; decide) h3 (fun _ => rfl) (fun e => absurd rfl e) h4 rfl rfl rfl
      simp (disch := omega) only [wk, avalE, aactE, evPE, boundE, asNat, bv_seql cellsEq_ii, bv_sneqd cellsEq_ii, readC, allOne, fillL, resE, tupled, ↓reduceIte, Nat.reduceEqDiff, Int.reduceEq, Int.reduceLT, Int.reduceLE, Nat.reduceAdd, Nat.reduceMul, Nat.reduceLT, Nat.reduceLeDiff, reduceCtorEq, Int.reduceToNat, Int.reduceAdd, Int.reduceSub, Int.reduceMul, Int.reduceNeg, Nat.reduceSub, Nat.reduceDiv, h3, h4, hok, em, rp, runG_un]
      simp only [purify, unownT, List.map_cons, List.map_nil, lend, unown_i, slvR_unown, AV.hf, hfL, slvR_hf (f := pairA) (fun _ => rfl), Nd.av, Nd.cells, Bool.and_self, if_true]
    · have hn : ¬ (Hd.mk 7522529147838689024 s l f y 0 0 0).ok := fun k => hf ((okf k).1 rfl)
      simp (disch := omega) only [wk, avalE, aactE, evPE, boundE, asNat, bv_seql cellsEq_ii, bv_sneqd cellsEq_ii, readC, allOne, fillL, resE, tupled, ↓reduceIte, Nat.reduceEqDiff, Int.reduceEq, Int.reduceLT, Int.reduceLE, Nat.reduceAdd, Nat.reduceMul, Nat.reduceLT, Nat.reduceLeDiff, reduceCtorEq, Int.reduceToNat, Int.reduceAdd, Int.reduceSub, Int.reduceMul, Int.reduceNeg, Nat.reduceSub, Nat.reduceDiv, h3, h4, hf, hn, nd0_av, runG_un, purify, unownT, lend, unown, AV.hf, hfL, Tk.hf]
  · have hv : ¬ m - 7522529147838689024 = 0 := by omega
    have hv2 : m - 7522529147838689024 > 0 := by omega
    by_cases hf : blockI f
    · have hok : (Hd.mk m s l f y 0 0 0).ok := mkok h1 (by show m ≤ nmark + 12; rw [em]; omega) h3 (fun e => absurd e hm) (fun _ => hf) h4 rfl rfl rfl
      simp only [hf, decide_true] at rb
      simp (disch := omega) only [wk, avalE, aactE, evPE, boundE, asNat, bv_seql cellsEq_ii, bv_sneqd cellsEq_ii, readC, allOne, fillL, resE, tupled, ↓reduceIte, Nat.reduceEqDiff, Int.reduceEq, Int.reduceLT, Int.reduceLE, Nat.reduceAdd, Nat.reduceMul, Nat.reduceLT, Nat.reduceLeDiff, reduceCtorEq, Int.reduceToNat, Int.reduceAdd, Int.reduceSub, Int.reduceMul, Int.reduceNeg, Nat.reduceSub, Nat.reduceDiv, h1, h2, h3, h4, hv, hv2, rb, hok, em, rp, runG_un]
      simp only [purify, unownT, List.map_cons, List.map_nil, lend, unown_i, slvR_unown, AV.hf, hfL, slvR_hf (f := pairA) (fun _ => rfl), Nd.av, Nd.cells, Bool.and_self, if_true]
    · have hn : ¬ (Hd.mk m s l f y 0 0 0).ok := fun k => hf ((okf k).2 hm)
      simp only [hf, decide_false] at rb
      simp (disch := omega) only [wk, avalE, aactE, evPE, boundE, asNat, bv_seql cellsEq_ii, bv_sneqd cellsEq_ii, readC, allOne, fillL, resE, tupled, ↓reduceIte, Nat.reduceEqDiff, Int.reduceEq, Int.reduceLT, Int.reduceLE, Nat.reduceAdd, Nat.reduceMul, Nat.reduceLT, Nat.reduceLeDiff, reduceCtorEq, Int.reduceToNat, Int.reduceAdd, Int.reduceSub, Int.reduceMul, Int.reduceNeg, Nat.reduceSub, Nat.reduceDiv, h1, h2, h3, h4, hv, hv2, rb, hn, nd0_av, runG_un, purify, unownT, lend, unown, AV.hf, hfL, Tk.hf]
theorem refsame_px (a b : Nd) (ha : a.ps.length ≤ 1000) (H : Heap) : pcx (cbL tab) 32 [a.av, b.av] H = some (.plain (.bool (decide (a.v = b.v ∧ a.s = b.s ∧ a.l = b.l ∧ a.f = b.f ∧ a.y = b.y ∧ a.ps = b.ps)))) := by
  refine pcx_N rfl (pc_wp (fi := c32) rfl ?_ (by simp [c32]) (by decide) ?_)
  · simp only [pcOn, c32, List.map_cons, List.map_nil, lend_Nd, hfL, hf_Nd, Bool.true_and]
  unfold c32
  rw [List.map_cons, List.map_cons, List.map_nil, lend_Nd, lend_Nd]
  have sv : ∀ l : List (Int × Int), ∃ (z : Nat) (k : Tk), slvR 2 pairA l = .sl z l.length (encs pairA l) k ∧ (l ≠ [] → z = 2) := by
    intro l
    unfold slvR
    split
    · rename_i he
      exact ⟨0, .z, rfl, fun hne => absurd (List.isEmpty_iff.1 he) hne⟩
    · exact ⟨2, .ro, rfl, fun _ => rfl⟩
  have o1 := slvR_one (sz := 2) (f := pairA) a.ps
  have o2 := slvR_one (sz := 2) (f := pairA) b.ps
  obtain ⟨v, s, l, f, y, ps⟩ := a
  obtain ⟨v', s', l', f', y', ps'⟩ := b
  dsimp only at o1 o2 ha
  obtain ⟨z1, k1, e1, hz1⟩ := sv ps
  obtain ⟨z2, k2, e2, hz2⟩ := sv ps'
  have sp := fun H => pcx_N (H := H) rfl (samePairs_pc ps ps' z1 z2 k1 k2 hz1 hz2 (by omega))
  simp only [Nd.av, Nd.cells]
  rw [e1] at o1 ⊢
  rw [e2] at o2 ⊢
  by_cases h1 : v = v'
  case neg => simp (disch := omega) only [wk, avalE, aactE, evPE, boundE, asNat, bv_seql cellsEq_ii, bv_sneqd cellsEq_ii, readC, allOne, fillL, resE, tupled, ↓reduceIte, Nat.reduceEqDiff, Int.reduceEq, Int.reduceLT, Int.reduceLE, Nat.reduceAdd, Nat.reduceMul, Nat.reduceLT, Nat.reduceLeDiff, reduceCtorEq, o1, o2, h1, runG_un, purify, unownT, lend, unown, AV.hf, false_and]
  by_cases h2 : s = s'
  case neg => simp (disch := omega) only [wk, avalE, aactE, evPE, boundE, asNat, bv_seql cellsEq_ii, bv_sneqd cellsEq_ii, readC, allOne, fillL, resE, tupled, ↓reduceIte, Nat.reduceEqDiff, Int.reduceEq, Int.reduceLT, Int.reduceLE, Nat.reduceAdd, Nat.reduceMul, Nat.reduceLT, Nat.reduceLeDiff, reduceCtorEq, o1, o2, h1, h2, runG_un, purify, unownT, lend, unown, AV.hf, false_and, and_false]
  by_cases h3 : l = l'
  case neg => simp (disch := omega) only [wk, avalE, aactE, evPE, boundE, asNat, bv_seql cellsEq_ii, bv_sneqd cellsEq_ii, readC, allOne, fillL, resE, tupled, ↓reduceIte, Nat.reduceEqDiff, Int.reduceEq, Int.reduceLT, Int.reduceLE, Nat.reduceAdd, Nat.reduceMul, Nat.reduceLT, Nat.reduceLeDiff, reduceCtorEq, o1, o2, h1, h2, h3, runG_un, purify, unownT, lend, unown, AV.hf, false_and, and_false]
  by_cases h4 : f = f'
  case neg => simp (disch := omega) only [wk, avalE, aactE, evPE, boundE, asNat, bv_seql cellsEq_ii, bv_sneqd cellsEq_ii, readC, allOne, fillL, resE, tupled, ↓reduceIte, Nat.reduceEqDiff, Int.reduceEq, Int.reduceLT, Int.reduceLE, Nat.reduceAdd, Nat.reduceMul, Nat.reduceLT, Nat.reduceLeDiff, reduceCtorEq, o1, o2, h1, h2, h3, h4, runG_un, purify, unownT, lend, unown, AV.hf, false_and, and_false]
  by_cases h5 : y = y'
  case neg => simp (disch := omega) only [wk, avalE, aactE, evPE, boundE, asNat, bv_seql cellsEq_ii, bv_sneqd cellsEq_ii, readC, allOne, fillL, resE, tupled, ↓reduceIte, Nat.reduceEqDiff, Int.reduceEq, Int.reduceLT, Int.reduceLE, Nat.reduceAdd, Nat.reduceMul, Nat.reduceLT, Nat.reduceLeDiff, reduceCtorEq, o1, o2, h1, h2, h3, h4, h5, runG_un, purify, unownT, lend, unown, AV.hf, false_and, and_false]
  simp (disch := omega) only [wk, avalE, aactE, evPE, boundE, asNat, bv_seql cellsEq_ii, bv_sneqd cellsEq_ii, readC, allOne, fillL, resE, tupled, ↓reduceIte, Nat.reduceEqDiff, Int.reduceEq, Int.reduceLT, Int.reduceLE, Nat.reduceAdd, Nat.reduceMul, Nat.reduceLT, Nat.reduceLeDiff, reduceCtorEq, o1, o2, h1, h2, h3, h4, h5, sp, runG_un, purify, unownT, lend, unown, AV.hf]
theorem slv_sl (l : List (Int × Int)) : ∃ (z : Nat) (k : Tk), slvR 2 pairA l = .sl z l.length (encs pairA l) k ∧ (l ≠ [] → z = 2) ∧ k.hf = true := by
  unfold slvR
  split
  · rename_i he
    exact ⟨0, .z, rfl, fun hne => absurd (List.isEmpty_iff.1 he) hne, rfl⟩
  · exact ⟨2, .ro, rfl, fun _ => rfl, rfl⟩
theorem mayN_ref {v l : Int} (hv : 0 ≤ v) (p : Int × Int) : mayN v l p ↔ rightN v p.2 ∧ l ≤ p.1 ∧ ¬ (0 < v ∧ p.1 = l) := by
  unfold mayN rightN
  by_cases h : v = 0
  · simp only [h, if_true]; omega
  · simp only [h, if_false]
    constructor
    · rintro ⟨h1, h2⟩; exact ⟨h1, by omega, fun k => by omega⟩
    · rintro ⟨h1, h2, h3⟩; exact ⟨h1, by omega⟩
theorem refcheck_len (n : Nat) (cs : List AV) (tk : Tk) (H : Heap) (hn : (n : Int) ≤ 9223372036854775807) (hc : hfL cs = true) (h : n ≠ 64) : pcx (cbL tab) 33 [.sl 1 n cs tk] H = some (.plain (.int .i64 210)) := by
  obtain ⟨u1, e1, f1⟩ := lend_sl 1 n cs tk
  refine pcx_N rfl (pc_wp (fi := c33) rfl ?_ (by simp [c33]) (by decide) ?_)
  · simp only [pcOn, List.map_cons, List.map_nil, hfL, hf_lend_sl, hf_lend_int, hf_lend_bool, hf_lend_str, hfL_append, Bool.and_self, Bool.and_true, Bool.true_and, c33, hc]
  unfold c33
  rw [List.map_cons, List.map_nil, e1]
  have o := fun H => refof_len n cs u1 H hn hc h
  rw [nd0_av] at o
  simp (disch := omega) only [wk, avalE, aactE, evPE, boundE, asNat, bv_seql cellsEq_ii, bv_sneqd cellsEq_ii, readC, allOne, fillL, resE, tupled, ↓reduceIte, Nat.reduceEqDiff, Int.reduceEq, Int.reduceLT, Int.reduceLE, Nat.reduceAdd, Nat.reduceMul, Nat.reduceLT, Nat.reduceLeDiff, reduceCtorEq, o, purify, unownT, lend, unown, AV.hf, hfL, Tk.hf]
theorem refcheck_words (h : Hd) (hu : h.u) (ps : List (Int × Int)) (hp : ps.length = 28) (rest : List AV) (tk : Tk) (H : Heap) (hc : hfL rest = true) :
    pcx (cbL tab) 33 [.sl 1 64 (wordsA h ps rest) tk] H = some (.plain (.int .i64 (if h.ok then chkE h ps else 210))) := by
  have hcs := hf_words h ps rest hc
  obtain ⟨u1, e1, f1⟩ := lend_sl 1 64 (wordsA h ps rest) tk
  refine pcx_N rfl (pc_wp (fi := c33) rfl ?_ (by simp [c33]) (by decide) ?_)
  · simp only [pcOn, List.map_cons, List.map_nil, hfL, hf_lend_sl, hf_lend_int, hf_lend_bool, hf_lend_str, hfL_append, Bool.and_self, Bool.and_true, Bool.true_and, c33, hcs]
  unfold c33
  rw [List.map_cons, List.map_nil, e1]
  have o := fun H => refof_words h hu ps hp rest u1 H hc
  by_cases hok : h.ok
  case neg =>
    simp only [hok, if_false, nd0_av] at o
    simp only [hok, if_false]
    simp (disch := omega) only [wk, avalE, aactE, evPE, boundE, asNat, bv_seql cellsEq_ii, bv_sneqd cellsEq_ii, readC, allOne, fillL, resE, tupled, ↓reduceIte, Nat.reduceEqDiff, Int.reduceEq, Int.reduceLT, Int.reduceLE, Nat.reduceAdd, Nat.reduceMul, Nat.reduceLT, Nat.reduceLeDiff, reduceCtorEq, o, purify, unownT, lend, unown, AV.hf, hfL, Tk.hf]
  simp only [hok, if_true] at o ⊢
  have hlen := rdL_le h.f ps
  have sc : ∀ H, pcx (cbL tab) 66 [.int .u64 h.f, .sl 1 56 (encs pairA ps ++ rest) .ro] H = some (.plain (.int .i64 (if okL h.f ps then 0 else 190))) := fun H => by
    have := check_yes h.f ps rest .ro H hc (Hd.row hok hp)
    rwa [row, hp] at this
  have lw : 56 ≤ (encs pairA ps).length + rest.length := by rw [encs_length (f := pairA) (k := 2), hp]; omega
  have ew : wordsA h ps rest = .int .u64 h.m :: .int .u64 h.s :: .int .u64 h.l :: .int .u64 h.f :: .int .u64 h.y :: .int .u64 h.a :: .int .u64 h.b :: .int .u64 h.c :: (encs pairA ps ++ rest) := rfl
  have so := slvR_one (sz := 2) (f := pairA) (rdL h.f ps)
  obtain ⟨z, k, ev, hz, kf⟩ := slv_sl (rdL h.f ps)
  have eNd : (ndOf h ps).av = .agg [.int .i64 (h.m - nmark), .int .i64 h.s, .int .u64 h.l, .int .u64 h.f, .int .i64 h.y, slvR 2 pairA (rdL h.f ps)] := rfl
  rw [eNd] at o
  rw [ev] at o so
  rw [ew] at o ⊢
  by_cases h1 : okL h.f ps
  case neg =>
    have e0 : chkE h ps = 190 := if_neg (fun k => h1 k.1)
    simp only [h1, if_false] at sc
    simp only [e0]
    simp (disch := omega) only [wk, avalE, aactE, evPE, boundE, asNat, bv_seql cellsEq_ii, bv_sneqd cellsEq_ii, readC, allOne, fillL, resE, tupled, ↓reduceIte, Nat.reduceEqDiff, Int.reduceEq, Int.reduceLT, Int.reduceLE, Nat.reduceAdd, Nat.reduceMul, Nat.reduceLT, Nat.reduceLeDiff, reduceCtorEq, Int.reduceToNat, Int.reduceAdd, Int.reduceSub, Int.reduceMul, Int.reduceNeg, Nat.reduceSub, Nat.reduceDiv, o, sc, so, runG_un, purify, unownT, lend, unown, AV.hf, hfL, Tk.hf]
  simp only [h1, if_true] at sc
  have hv : 0 ≤ h.m - nmark := by have := hok.1; omega
  have ce : chkE h ps = if mayAll (h.m - nmark) h.l (rdL h.f ps) then 0 else 190 := by simp [chkE, h1]
  generalize chkE h ps = C at ce ⊢
  generalize rdL h.f ps = R at *
  simp (disch := omega) only [wk, avalE, aactE, evPE, boundE, asNat, bv_seql cellsEq_ii, bv_sneqd cellsEq_ii, readC, allOne, fillL, resE, tupled, ↓reduceIte, Nat.reduceEqDiff, Int.reduceEq, Int.reduceLT, Int.reduceLE, Nat.reduceAdd, Nat.reduceMul, Nat.reduceLT, Nat.reduceLeDiff, reduceCtorEq, Int.reduceToNat, Int.reduceAdd, Int.reduceSub, Int.reduceMul, Int.reduceNeg, Nat.reduceSub, Nat.reduceDiv, o, sc, so]
  refine loop_ind (fun (x : List (Int × Int) × List (Int × Int)) E df H1 => R = x.1 ++ x.2 ∧ (mayAll (h.m - nmark) h.l R ↔ mayAll (h.m - nmark) h.l x.2) ∧ E 3 = .ptr 0 0 ∧ E 5 = .int .i64 (x.1.length : Nat) ∧ df = [] ∧
      H1[0]? = some (.cells [.int .i64 (h.m - nmark), .int .i64 h.s, .int .u64 h.l, .int .u64 h.f, .int .i64 h.y, .sl z R.length (encs pairA R) k])) (fun x => x.2.length) ([], R) (by decide) (.inl rfl) ⟨rfl, Iff.rfl, rfl, rfl, rfl, rfl⟩ ?_
  intro ⟨pre, suf⟩ E df H1 ih hP
  obtain ⟨a1, a2, E3, E5, hdf, hh⟩ := hP
  dsimp only at a1 a2 E5
  subst hdf
  have hRl : R.length = pre.length + suf.length := by rw [a1, List.length_append]
  cases suf with
  | nil =>
    simp only [List.length_nil, Nat.add_zero] at hRl
    have m0 : mayAll (h.m - nmark) h.l R := by rw [a2]; simp [mayAll]
    rw [if_pos m0] at ce
    rw [hRl] at hh
    simp (disch := omega) only [wk, avalE, aactE, evPE, boundE, asNat, bv_seql cellsEq_ii, bv_sneqd cellsEq_ii, readC, allOne, fillL, resE, tupled, ↓reduceIte, Nat.reduceEqDiff, Int.reduceEq, Int.reduceLT, Int.reduceLE, Nat.reduceAdd, Nat.reduceMul, Nat.reduceLT, Nat.reduceLeDiff, reduceCtorEq, E3, E5, hh, ce, purify, unownT, lend, unown, AV.hf]
  | cons x r =>
    simp only [List.length_cons] at hRl
    obtain rfl := hz (by rw [a1]; simp)
    obtain ⟨kk, q⟩ := x
    have dr : List.drop (pre.length * 2) (encs pairA R) = .int .u64 kk :: .int .u64 q :: encs pairA r := by rw [a1, drop_pre, encs_cons]; rfl
    have e1' : ∀ o : AObj, (H1 ++ [o])[H1.length]? = some o := fun o => by simp
    have e0' : ∀ o : AObj, (H1 ++ [o])[0]? = H1[0]? := fun o => List.getElem?_append_left (by have := (List.getElem?_eq_some_iff.1 hh).1; exact this)
    have e2' : ∀ o q : AObj, (H1 ++ [o]).set H1.length q = H1 ++ [q] := fun o q => by simp
    have a3 : mayAll (h.m - nmark) h.l ((kk, q) :: r) ↔ mayN (h.m - nmark) h.l (kk, q) ∧ mayAll (h.m - nmark) h.l r := by simp [mayAll]
    have mr := mayN_ref (l := h.l) hv (kk, q)
    have rr := refright_px (h.m - nmark) q
    dsimp only at mr
    simp only [a2, a3, mr] at ce
    by_cases g1 : rightN (h.m - nmark) q
    case neg =>
      have c9 : C = 190 := by rw [ce, if_neg (fun t => g1 t.1.1)]
      simp only [g1, decide_false] at rr
      simp (disch := omega) only [wk, avalE, aactE, evPE, boundE, asNat, bv_seql cellsEq_ii, bv_sneqd cellsEq_ii, readC, allOne, fillL, resE, tupled, ↓reduceIte, Nat.reduceEqDiff, Int.reduceEq, Int.reduceLT, Int.reduceLE, Nat.reduceAdd, Nat.reduceMul, Nat.reduceLT, Nat.reduceLeDiff, reduceCtorEq, E3, E5, hh, dr, e0', e1', e2', rr, runG_un, c9, purify, unownT, lend, unown, AV.hf]
    simp only [g1, decide_true] at rr
    by_cases g2 : kk < h.l
    · have c9 : C = 190 := by rw [ce, if_neg (fun t => by have := t.1.2.1; omega)]
      simp (disch := omega) only [wk, avalE, aactE, evPE, boundE, asNat, bv_seql cellsEq_ii, bv_sneqd cellsEq_ii, readC, allOne, fillL, resE, tupled, ↓reduceIte, Nat.reduceEqDiff, Int.reduceEq, Int.reduceLT, Int.reduceLE, Nat.reduceAdd, Nat.reduceMul, Nat.reduceLT, Nat.reduceLeDiff, reduceCtorEq, E3, E5, hh, dr, e0', e1', e2', rr, g2, runG_un, c9, purify, unownT, lend, unown, AV.hf]
    by_cases g3 : h.m - nmark > 0
    · by_cases g4 : kk = h.l
      · have c9 : C = 190 := by rw [ce, if_neg (fun t => t.1.2.2 ⟨g3, g4⟩)]
        simp (disch := omega) only [wk, avalE, aactE, evPE, boundE, asNat, bv_seql cellsEq_ii, bv_sneqd cellsEq_ii, readC, allOne, fillL, resE, tupled, ↓reduceIte, Nat.reduceEqDiff, Int.reduceEq, Int.reduceLT, Int.reduceLE, Nat.reduceAdd, Nat.reduceMul, Nat.reduceLT, Nat.reduceLeDiff, reduceCtorEq, E3, E5, hh, dr, e0', e1', e2', rr, g2, g3, g4, runG_un, c9, purify, unownT, lend, unown, AV.hf]
        done
      · simp (disch := omega) only [wk, avalE, aactE, evPE, boundE, asNat, bv_seql cellsEq_ii, bv_sneqd cellsEq_ii, readC, allOne, fillL, resE, tupled, ↓reduceIte, Nat.reduceEqDiff, Int.reduceEq, Int.reduceLT, Int.reduceLE, Nat.reduceAdd, Nat.reduceMul, Nat.reduceLT, Nat.reduceLeDiff, reduceCtorEq, E3, E5, hh, dr, e0', e1', e2', rr, g2, g3, g4, runG_un]
        refine ih (pre ++ [(kk, q)], r) _ _ _ (by simp) ?_
        exact ⟨by rw [a1]; simp, by rw [a2, a3, mr]; exact ⟨fun t => t.2, fun t => ⟨⟨g1, by omega, fun w => g4 w.2⟩, t⟩⟩, by simp only [en, ↓reduceIte, Nat.reduceEqDiff, E3], by simp only [en, ↓reduceIte, Nat.reduceEqDiff], rfl, by rw [e0', hh]⟩
    · simp (disch := omega) only [wk, avalE, aactE, evPE, boundE, asNat, bv_seql cellsEq_ii, bv_sneqd cellsEq_ii, readC, allOne, fillL, resE, tupled, ↓reduceIte, Nat.reduceEqDiff, Int.reduceEq, Int.reduceLT, Int.reduceLE, Nat.reduceAdd, Nat.reduceMul, Nat.reduceLT, Nat.reduceLeDiff, reduceCtorEq, E3, E5, hh, dr, e0', e1', e2', rr, g2, g3, runG_un]
      refine ih (pre ++ [(kk, q)], r) _ _ _ (by simp) ?_
      exact ⟨by rw [a1]; simp, by rw [a2, a3, mr]; exact ⟨fun t => t.2, fun t => ⟨⟨g1, by omega, fun w => g3 w.1⟩, t⟩⟩, by simp only [en, ↓reduceIte, Nat.reduceEqDiff, E3], by simp only [en, ↓reduceIte, Nat.reduceEqDiff], rfl, by rw [e0', hh]⟩
/-- The pointer of the last pair whose key is not above one, or what it was. -/
def childL (key at_ : Int) : List (Int × Int) → Int
  | [] => at_
  | x :: r => if x.1 ≤ key then childL key x.2 r else childL key at_ r
def childR (h : Hd) (ps : List (Int × Int)) (key : Int) : AV :=
  if h.ok then (if chkE h ps = 0 then (if h.m = nmark then .tup [.int .i64 0, .int .i64 2] else .tup [.int .i64 (childL key h.f (rdL h.f ps)), .int .i64 0]) else .tup [.int .i64 0, .int .i64 190]) else .tup [.int .i64 0, .int .i64 210]
theorem chk_two (h : Hd) (ps : List (Int × Int)) (k : chkE h ps ≠ 0) : chkE h ps = 190 := by
  unfold chkE at *
  split
  · rename_i g; rw [if_pos g] at k; exact absurd rfl k
  · rfl
/-- Pointers that a settled node's pairs have. -/
theorem childL_small {lv lo : Int} (hv : lv ≠ 0) (key : Int) : ∀ (l : List (Int × Int)) (a : Int), blockI a → mayAll lv lo l → blockI (childL key a l)
  | [], a, ha, _ => ha
  | x :: r, a, ha, h => by
    have h1 : mayN lv lo x := h x (List.mem_cons_self ..)
    have h2 : mayAll lv lo r := fun p hp => h p (List.mem_cons_of_mem _ hp)
    unfold mayN at h1
    rw [if_neg hv] at h1
    rw [childL]
    split
    · exact childL_small hv key r _ h1.1 h2
    · exact childL_small hv key r _ ha h2
theorem child_len (n : Nat) (cs : List AV) (tk : Tk) (key : Int) (H : Heap) (hn : (n : Int) ≤ 9223372036854775807) (hc : hfL cs = true) (h : n ≠ 64) : pcx (cbL tab) 36 [.sl 1 n cs tk, .int .u64 key] H = some (.plain (.tup [.int .i64 0, .int .i64 210])) := by
  obtain ⟨u1, e1, f1⟩ := lend_sl 1 n cs tk
  refine pcx_N rfl (pc_wp (fi := c36) rfl ?_ (by simp [c36]) (by decide) ?_)
  · simp only [pcOn, List.map_cons, List.map_nil, hfL, hf_lend_sl, hf_lend_int, hf_lend_bool, hf_lend_str, hfL_append, Bool.and_self, Bool.and_true, Bool.true_and, c36, hc]
  unfold c36
  rw [List.map_cons, List.map_cons, List.map_nil, e1]
  have o := fun H => settled_len n cs u1 H hn hc h
  rw [nd0_av] at o
  simp (disch := omega) only [wk, avalE, aactE, evPE, boundE, asNat, bv_seql cellsEq_ii, bv_sneqd cellsEq_ii, readC, allOne, fillL, resE, tupled, ↓reduceIte, Nat.reduceEqDiff, Int.reduceEq, Int.reduceLT, Int.reduceLE, Nat.reduceAdd, Nat.reduceMul, Nat.reduceLT, Nat.reduceLeDiff, reduceCtorEq, lend_int, o, purify, unownT, lend, unown, AV.hf, hfL, Tk.hf]
theorem refchild_len (n : Nat) (cs : List AV) (tk : Tk) (key : Int) (H : Heap) (hn : (n : Int) ≤ 9223372036854775807) (hc : hfL cs = true) (h : n ≠ 64) : pcx (cbL tab) 37 [.sl 1 n cs tk, .int .u64 key] H = some (.plain (.tup [.int .i64 0, .int .i64 210])) := by
  obtain ⟨u1, e1, f1⟩ := lend_sl 1 n cs tk
  refine pcx_N rfl (pc_wp (fi := c37) rfl ?_ (by simp [c37]) (by decide) ?_)
  · simp only [pcOn, List.map_cons, List.map_nil, hfL, hf_lend_sl, hf_lend_int, hf_lend_bool, hf_lend_str, hfL_append, Bool.and_self, Bool.and_true, Bool.true_and, c37, hc]
  unfold c37
  rw [List.map_cons, List.map_cons, List.map_nil, e1]
  have o := fun H => refcheck_len n cs u1 H hn hc h
  simp (disch := omega) only [wk, avalE, aactE, evPE, boundE, asNat, bv_seql cellsEq_ii, bv_sneqd cellsEq_ii, readC, allOne, fillL, resE, tupled, ↓reduceIte, Nat.reduceEqDiff, Int.reduceEq, Int.reduceLT, Int.reduceLE, Nat.reduceAdd, Nat.reduceMul, Nat.reduceLT, Nat.reduceLeDiff, reduceCtorEq, lend_int, o, purify, unownT, lend, unown, AV.hf, hfL, Tk.hf]
theorem child_words (h : Hd) (hu : h.u) (ps : List (Int × Int)) (hp : ps.length = 28) (rest : List AV) (tk : Tk) (key : Int) (H : Heap) (hc : hfL rest = true) :
    pcx (cbL tab) 36 [.sl 1 64 (wordsA h ps rest) tk, .int .u64 key] H = some (.plain (childR h ps key)) := by
  have hcs := hf_words h ps rest hc
  obtain ⟨u1, e1, f1⟩ := lend_sl 1 64 (wordsA h ps rest) tk
  refine pcx_N rfl (pc_wp (fi := c36) rfl ?_ (by simp [c36]) (by decide) ?_)
  · simp only [pcOn, List.map_cons, List.map_nil, hfL, hf_lend_sl, hf_lend_int, hf_lend_bool, hf_lend_str, hfL_append, Bool.and_self, Bool.and_true, Bool.true_and, c36, hcs]
  unfold c36
  rw [List.map_cons, List.map_cons, List.map_nil, e1]
  have o := fun H => settled_words h hu ps hp rest u1 H hc
  by_cases hok : h.ok
  case neg =>
    simp only [hok, if_false, nd0_av, false_and] at o
    simp only [hok, childR, if_false]
    simp (disch := omega) only [wk, avalE, aactE, evPE, boundE, asNat, bv_seql cellsEq_ii, bv_sneqd cellsEq_ii, readC, allOne, fillL, resE, tupled, ↓reduceIte, Nat.reduceEqDiff, Int.reduceEq, Int.reduceLT, Int.reduceLE, Nat.reduceAdd, Nat.reduceMul, Nat.reduceLT, Nat.reduceLeDiff, reduceCtorEq, lend_int, o, purify, unownT, lend, unown, AV.hf, hfL, Tk.hf]
  by_cases hk : chkE h ps = 0
  case neg =>
    simp only [hok, hk, chk_two h ps hk, if_false, if_true, nd0_av, true_and] at o
    simp only [hok, hk, childR, if_true, if_false]
    simp (disch := omega) only [wk, avalE, aactE, evPE, boundE, asNat, bv_seql cellsEq_ii, bv_sneqd cellsEq_ii, readC, allOne, fillL, resE, tupled, ↓reduceIte, Nat.reduceEqDiff, Int.reduceEq, Int.reduceLT, Int.reduceLE, Nat.reduceAdd, Nat.reduceMul, Nat.reduceLT, Nat.reduceLeDiff, reduceCtorEq, lend_int, o, purify, unownT, lend, unown, AV.hf, hfL, Tk.hf]
  simp only [hok, hk, if_true, and_self] at o
  simp only [hok, hk, childR, if_true]
  have so := slvR_one (sz := 2) (f := pairA) (rdL h.f ps)
  obtain ⟨z, k, ev, hz, kf⟩ := slv_sl (rdL h.f ps)
  have eN : (ndOf h ps).av = .agg [.int .i64 (h.m - nmark), .int .i64 h.s, .int .u64 h.l, .int .u64 h.f, .int .i64 h.y, slvR 2 pairA (rdL h.f ps)] := rfl
  rw [eN] at o
  rw [ev] at o so
  have hlen := rdL_le h.f ps
  by_cases hm : h.m = nmark
  · have hm0 : h.m - nmark = 0 := by omega
    simp only [hm, if_true]
    rw [hm] at o
    simp (disch := omega) only [wk, avalE, aactE, evPE, boundE, asNat, bv_seql cellsEq_ii, bv_sneqd cellsEq_ii, readC, allOne, fillL, resE, tupled, ↓reduceIte, Nat.reduceEqDiff, Int.reduceEq, Int.reduceLT, Int.reduceLE, Nat.reduceAdd, Nat.reduceMul, Nat.reduceLT, Nat.reduceLeDiff, reduceCtorEq, lend_int, o, so, Int.sub_self, purify, unownT, lend, unown, AV.hf, hfL, Tk.hf]
  have hm0 : ¬ h.m - nmark = 0 := by omega
  simp only [hm, if_false]
  have hma : mayAll (h.m - nmark) h.l (rdL h.f ps) := by
    apply Classical.byContradiction
    intro g
    unfold chkE at hk
    rw [if_neg (fun t => g t.2)] at hk
    cases hk
  have sm := childL_small hm0 key (rdL h.f ps) h.f ((okf hok).2 hm) hma
  generalize rdL h.f ps = R at *
  simp (disch := omega) only [wk, avalE, aactE, evPE, boundE, asNat, bv_seql cellsEq_ii, bv_sneqd cellsEq_ii, readC, allOne, fillL, resE, tupled, ↓reduceIte, Nat.reduceEqDiff, Int.reduceEq, Int.reduceLT, Int.reduceLE, Nat.reduceAdd, Nat.reduceMul, Nat.reduceLT, Nat.reduceLeDiff, reduceCtorEq, lend_int, o, so, hm0]
  refine loop_ind (fun (x : List (Int × Int) × List (Int × Int) × Int) E df H1 => R = x.1 ++ x.2.1 ∧ childL key h.f R = childL key x.2.2 x.2.1 ∧ E 1 = .int .u64 key ∧ E 8 = .int .u64 x.2.2 ∧ E 30 = .sl z R.length (encs pairA R) k ∧ E 31 = .int .i64 (R.length : Nat) ∧ E 32 = .int .i64 (x.1.length : Nat) ∧ df = []) (fun x => x.2.1.length) ([], R, h.f) (by decide) (.inl rfl) ⟨rfl, rfl, rfl, rfl, rfl, rfl, rfl, rfl⟩ ?_
  intro ⟨pre, suf, at_⟩ E df H1 ih hP
  obtain ⟨a1, a2, E1, E8, E30, E31, E32, hdf⟩ := hP
  dsimp only at a1 a2 E8 E32
  subst hdf
  have hRl : R.length = pre.length + suf.length := by rw [a1, List.length_append]
  cases suf with
  | nil =>
    simp only [List.length_nil, Nat.add_zero] at hRl
    rw [childL] at a2
    rw [a2] at sm ⊢
    obtain ⟨b1, b2⟩ := sm
    rw [hRl] at E31
    simp (disch := omega) only [wk, avalE, aactE, evPE, boundE, asNat, bv_seql cellsEq_ii, bv_sneqd cellsEq_ii, readC, allOne, fillL, resE, tupled, ↓reduceIte, Nat.reduceEqDiff, Int.reduceEq, Int.reduceLT, Int.reduceLE, Nat.reduceAdd, Nat.reduceMul, Nat.reduceLT, Nat.reduceLeDiff, reduceCtorEq, E1, E8, E30, E31, E32, purify, unownT, lend, unown, AV.hf, hfL]
  | cons x r =>
    simp only [List.length_cons] at hRl
    obtain rfl := hz (by rw [a1]; simp)
    obtain ⟨kk, q⟩ := x
    have dr : List.drop (pre.length * 2) (encs pairA R) = .int .u64 kk :: .int .u64 q :: encs pairA r := by rw [a1, drop_pre, encs_cons]; rfl
    have e1' : ∀ o : AObj, (H1 ++ [o])[H1.length]? = some o := fun o => by simp
    have e2' : ∀ o q : AObj, (H1 ++ [o]).set H1.length q = H1 ++ [q] := fun o q => by simp
    rw [childL] at a2
    by_cases g : kk ≤ key
    · rw [if_pos g] at a2
      simp (disch := omega) only [wk, avalE, aactE, evPE, boundE, asNat, bv_seql cellsEq_ii, bv_sneqd cellsEq_ii, readC, allOne, fillL, resE, tupled, ↓reduceIte, Nat.reduceEqDiff, Int.reduceEq, Int.reduceLT, Int.reduceLE, Nat.reduceAdd, Nat.reduceMul, Nat.reduceLT, Nat.reduceLeDiff, reduceCtorEq, E1, E8, E30, E31, E32, dr, e1', e2', g]
      refine ih (pre ++ [(kk, q)], r, q) _ _ _ (by simp) ?_
      exact ⟨by rw [a1]; simp, a2, by simp only [en, ↓reduceIte, Nat.reduceEqDiff, E1], by simp only [en, ↓reduceIte, Nat.reduceEqDiff], by simp only [en, ↓reduceIte, Nat.reduceEqDiff, E30], by simp only [en, ↓reduceIte, Nat.reduceEqDiff, E31], by simp only [en, ↓reduceIte, Nat.reduceEqDiff], rfl⟩
    · rw [if_neg g] at a2
      simp (disch := omega) only [wk, avalE, aactE, evPE, boundE, asNat, bv_seql cellsEq_ii, bv_sneqd cellsEq_ii, readC, allOne, fillL, resE, tupled, ↓reduceIte, Nat.reduceEqDiff, Int.reduceEq, Int.reduceLT, Int.reduceLE, Nat.reduceAdd, Nat.reduceMul, Nat.reduceLT, Nat.reduceLeDiff, reduceCtorEq, E1, E8, E30, E31, E32, dr, e1', e2', g]
      refine ih (pre ++ [(kk, q)], r, at_) _ _ _ (by simp) ?_
      exact ⟨by rw [a1]; simp, a2, by simp only [en, ↓reduceIte, Nat.reduceEqDiff, E1], by simp only [en, ↓reduceIte, Nat.reduceEqDiff, E8], by simp only [en, ↓reduceIte, Nat.reduceEqDiff, E30], by simp only [en, ↓reduceIte, Nat.reduceEqDiff, E31], by simp only [en, ↓reduceIte, Nat.reduceEqDiff], rfl⟩
theorem refchild_words (h : Hd) (hu : h.u) (ps : List (Int × Int)) (hp : ps.length = 28) (rest : List AV) (tk : Tk) (key : Int) (H : Heap) (hc : hfL rest = true) :
    pcx (cbL tab) 37 [.sl 1 64 (wordsA h ps rest) tk, .int .u64 key] H = some (.plain (childR h ps key)) := by
  have hcs := hf_words h ps rest hc
  obtain ⟨u1, e1, f1⟩ := lend_sl 1 64 (wordsA h ps rest) tk
  refine pcx_N rfl (pc_wp (fi := c37) rfl ?_ (by simp [c37]) (by decide) ?_)
  · simp only [pcOn, List.map_cons, List.map_nil, hfL, hf_lend_sl, hf_lend_int, hf_lend_bool, hf_lend_str, hfL_append, Bool.and_self, Bool.and_true, Bool.true_and, c37, hcs]
  unfold c37
  rw [List.map_cons, List.map_cons, List.map_nil, e1]
  have o := fun H => refcheck_words h hu ps hp rest u1 H hc
  have o2 := fun H => refof_words h hu ps hp rest u1 H hc
  by_cases hok : h.ok
  case neg =>
    simp only [hok, if_false] at o
    simp only [hok, childR, if_false]
    simp (disch := omega) only [wk, avalE, aactE, evPE, boundE, asNat, bv_seql cellsEq_ii, bv_sneqd cellsEq_ii, readC, allOne, fillL, resE, tupled, ↓reduceIte, Nat.reduceEqDiff, Int.reduceEq, Int.reduceLT, Int.reduceLE, Nat.reduceAdd, Nat.reduceMul, Nat.reduceLT, Nat.reduceLeDiff, reduceCtorEq, lend_int, o, purify, unownT, lend, unown, AV.hf, hfL, Tk.hf]
  by_cases hk : chkE h ps = 0
  case neg =>
    simp only [hok, chk_two h ps hk, if_true] at o
    simp only [hok, hk, childR, if_true, if_false]
    simp (disch := omega) only [wk, avalE, aactE, evPE, boundE, asNat, bv_seql cellsEq_ii, bv_sneqd cellsEq_ii, readC, allOne, fillL, resE, tupled, ↓reduceIte, Nat.reduceEqDiff, Int.reduceEq, Int.reduceLT, Int.reduceLE, Nat.reduceAdd, Nat.reduceMul, Nat.reduceLT, Nat.reduceLeDiff, reduceCtorEq, lend_int, o, purify, unownT, lend, unown, AV.hf, hfL, Tk.hf]
  simp only [hok, hk, if_true] at o o2
  simp only [hok, hk, childR, if_true]
  have so := slvR_one (sz := 2) (f := pairA) (rdL h.f ps)
  obtain ⟨z, k, ev, hz, kf⟩ := slv_sl (rdL h.f ps)
  have eN : (ndOf h ps).av = .agg [.int .i64 (h.m - nmark), .int .i64 h.s, .int .u64 h.l, .int .u64 h.f, .int .i64 h.y, slvR 2 pairA (rdL h.f ps)] := rfl
  rw [eN] at o2
  rw [ev] at o2 so
  have hlen := rdL_le h.f ps
  by_cases hm : h.m = nmark
  · simp only [hm, if_true]
    rw [hm] at o2
    simp (disch := omega) only [wk, avalE, aactE, evPE, boundE, asNat, bv_seql cellsEq_ii, bv_sneqd cellsEq_ii, readC, allOne, fillL, resE, tupled, ↓reduceIte, Nat.reduceEqDiff, Int.reduceEq, Int.reduceLT, Int.reduceLE, Nat.reduceAdd, Nat.reduceMul, Nat.reduceLT, Nat.reduceLeDiff, reduceCtorEq, lend_int, o, o2, so, Int.sub_self, purify, unownT, lend, unown, AV.hf, hfL, Tk.hf]
  have hm0 : ¬ h.m - nmark = 0 := by omega
  simp only [hm, if_false]
  have hma : mayAll (h.m - nmark) h.l (rdL h.f ps) := by
    apply Classical.byContradiction
    intro g
    unfold chkE at hk
    rw [if_neg (fun t => g t.2)] at hk
    cases hk
  have sm := childL_small hm0 key (rdL h.f ps) h.f ((okf hok).2 hm) hma
  generalize rdL h.f ps = R at *
  simp (disch := omega) only [wk, avalE, aactE, evPE, boundE, asNat, bv_seql cellsEq_ii, bv_sneqd cellsEq_ii, readC, allOne, fillL, resE, tupled, ↓reduceIte, Nat.reduceEqDiff, Int.reduceEq, Int.reduceLT, Int.reduceLE, Nat.reduceAdd, Nat.reduceMul, Nat.reduceLT, Nat.reduceLeDiff, reduceCtorEq, lend_int, o, o2, so, hm0]
  refine loop_ind (fun (x : List (Int × Int) × List (Int × Int) × Int) E df H1 => R = x.1 ++ x.2.1 ∧ childL key h.f R = childL key x.2.2 x.2.1 ∧ E 1 = .int .u64 key ∧ E 9 = .int .u64 x.2.2 ∧ E 7 = .ptr 0 0 ∧ E 10 = .int .i64 (x.1.length : Nat) ∧ df = [] ∧ H1 = [.cells [.int .i64 (h.m - nmark), .int .i64 h.s, .int .u64 h.l, .int .u64 h.f, .int .i64 h.y, .sl z R.length (encs pairA R) k]]) (fun x => x.2.1.length) ([], R, h.f) (by decide) (.inl rfl) ⟨rfl, rfl, rfl, rfl, rfl, rfl, rfl, rfl⟩ ?_
  intro ⟨pre, suf, at_⟩ E df H1 ih hP
  obtain ⟨a1, a2, E1, E9, E7, E10, hdf, hh⟩ := hP
  dsimp only at a1 a2 E9 E10
  subst hdf hh
  have hRl : R.length = pre.length + suf.length := by rw [a1, List.length_append]
  cases suf with
  | nil =>
    simp only [List.length_nil, Nat.add_zero] at hRl
    rw [childL] at a2
    rw [a2] at sm ⊢
    obtain ⟨b1, b2⟩ := sm
    have nl : ¬ (pre.length : Int) < R.length := by omega
    simp (disch := omega) only [wk, avalE, aactE, evPE, boundE, asNat, bv_seql cellsEq_ii, bv_sneqd cellsEq_ii, readC, allOne, fillL, resE, tupled, ↓reduceIte, Nat.reduceEqDiff, Int.reduceEq, Int.reduceLT, Int.reduceLE, Nat.reduceAdd, Nat.reduceMul, Nat.reduceLT, Nat.reduceLeDiff, reduceCtorEq, E1, E9, E7, E10, nl, purify, unownT, lend, unown, AV.hf, hfL]
  | cons x r =>
    simp only [List.length_cons] at hRl
    obtain rfl := hz (by rw [a1]; simp)
    obtain ⟨kk, q⟩ := x
    have dr : List.drop (pre.length * 2) (encs pairA R) = .int .u64 kk :: .int .u64 q :: encs pairA r := by rw [a1, drop_pre, encs_cons]; rfl
    rw [childL] at a2
    by_cases g : kk ≤ key
    · rw [if_pos g] at a2
      simp (disch := omega) only [wk, avalE, aactE, evPE, boundE, asNat, bv_seql cellsEq_ii, bv_sneqd cellsEq_ii, readC, allOne, fillL, resE, tupled, ↓reduceIte, Nat.reduceEqDiff, Int.reduceEq, Int.reduceLT, Int.reduceLE, Nat.reduceAdd, Nat.reduceMul, Nat.reduceLT, Nat.reduceLeDiff, reduceCtorEq, E1, E9, E7, E10, dr, g]
      refine ih (pre ++ [(kk, q)], r, q) _ _ _ (by simp) ?_
      exact ⟨by rw [a1]; simp, a2, by simp only [en, ↓reduceIte, Nat.reduceEqDiff, E1], by simp only [en, ↓reduceIte, Nat.reduceEqDiff], by simp only [en, ↓reduceIte, Nat.reduceEqDiff, E7], by simp only [en, ↓reduceIte, Nat.reduceEqDiff], rfl, rfl⟩
    · rw [if_neg g] at a2
      simp (disch := omega) only [wk, avalE, aactE, evPE, boundE, asNat, bv_seql cellsEq_ii, bv_sneqd cellsEq_ii, readC, allOne, fillL, resE, tupled, ↓reduceIte, Nat.reduceEqDiff, Int.reduceEq, Int.reduceLT, Int.reduceLE, Nat.reduceAdd, Nat.reduceMul, Nat.reduceLT, Nat.reduceLeDiff, reduceCtorEq, E1, E9, E7, E10, dr, g]
      refine ih (pre ++ [(kk, q)], r, at_) _ _ _ (by simp) ?_
      exact ⟨by rw [a1]; simp, a2, by simp only [en, ↓reduceIte, Nat.reduceEqDiff, E1], by simp only [en, ↓reduceIte, Nat.reduceEqDiff, E9], by simp only [en, ↓reduceIte, Nat.reduceEqDiff, E7], by simp only [en, ↓reduceIte, Nat.reduceEqDiff], rfl, rfl⟩
end Go.Proofs.Ytailfegmnkldoaa
