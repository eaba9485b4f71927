/- THE WALKS OF Child, THE PROGRAM'S AND THE DOCUMENT'S. No condition but those stated. -/
import Derived.Test.YtailfegmnkldoaaN6
set_option linter.unusedSimpArgs false
set_option linter.unusedVariables false
set_option linter.unusedSectionVars false
namespace Go.Proofs.Ytailfegmnkldoaa
open Go Go.Am Go.Slots Go.Nod
set_option maxHeartbeats 8000000
set_option maxRecDepth 10000
/-- The pointer of the last pair whose key is not above one, or what it was. -/
def childL (key at_ : Int) : List (Int × Int) → Int
  | [] => at_
  | x :: r => if x.1 ≤ key then childL key x.2 r else childL key at_ r
def childR (h : Hd) (ps : List (Int × Int)) (key : Int) : AV :=
  if h.ok then (if chkE h ps = 0 then (if h.m = nmark then .tup [.int .i64 0, .int .i64 2] else .tup [.int .i64 (childL key h.f (rdL h.f ps)), .int .i64 0]) else .tup [.int .i64 0, .int .i64 190]) else .tup [.int .i64 0, .int .i64 210]
theorem chk_two (h : Hd) (ps : List (Int × Int)) (k : chkE h ps ≠ 0) : chkE h ps = 190 := by
  unfold chkE at *
  split
  · rename_i g; rw [if_pos g] at k; exact absurd rfl k
  · rfl
/-- Pointers that a settled node's pairs have. -/
theorem childL_small {lv lo : Int} (hv : lv ≠ 0) (key : Int) : ∀ (l : List (Int × Int)) (a : Int), blockI a → mayAll lv lo l → blockI (childL key a l)
  | [], a, ha, _ => ha
  | x :: r, a, ha, h => by
    have h1 : mayN lv lo x := h x (List.mem_cons_self ..)
    have h2 : mayAll lv lo r := fun p hp => h p (List.mem_cons_of_mem _ hp)
    unfold mayN at h1
    rw [if_neg hv] at h1
    rw [childL]
    split
    · exact childL_small hv key r _ h1.1 h2
    · exact childL_small hv key r _ ha h2
theorem child_len (n : Nat) (cs : List AV) (tk : Tk) (key : Int) (H : Heap) (hn : (n : Int) ≤ 9223372036854775807) (hc : hfL cs = true) (h : n ≠ 64) : pcx (cbL tab) 36 [.sl 1 n cs tk, .int .u64 key] H = some (.plain (.tup [.int .i64 0, .int .i64 210])) := by
  obtain ⟨u1, e1, f1⟩ := lend_sl 1 n cs tk
  refine pcx_N rfl (pc_wp (fi := c36) rfl ?_ (by simp [c36]) (by decide) ?_)
  · simp only [pcOn, List.map_cons, List.map_nil, hfL, hf_lend_sl, hf_lend_int, hf_lend_bool, hf_lend_str, hfL_append, Bool.and_self, Bool.and_true, Bool.true_and, c36, hc]
  unfold c36
  rw [List.map_cons, List.map_cons, List.map_nil, e1]
  have o := fun H => settled_len n cs u1 H hn hc h
  rw [nd0_av] at o
  simp (disch := omega) only [wk, avalE, aactE, evPE, boundE, asNat, bv_seql cellsEq_ii, bv_sneqd cellsEq_ii, readC, allOne, fillL, resE, tupled, ↓reduceIte, Nat.reduceEqDiff, Int.reduceEq, Int.reduceLT, Int.reduceLE, Nat.reduceAdd, Nat.reduceMul, Nat.reduceLT, Nat.reduceLeDiff, reduceCtorEq, lend_int, o, purify, unownT, lend, unown, AV.hf, hfL, Tk.hf]
theorem refchild_len (n : Nat) (cs : List AV) (tk : Tk) (key : Int) (H : Heap) (hn : (n : Int) ≤ 9223372036854775807) (hc : hfL cs = true) (h : n ≠ 64) : pcx (cbL tab) 37 [.sl 1 n cs tk, .int .u64 key] H = some (.plain (.tup [.int .i64 0, .int .i64 210])) := by
  obtain ⟨u1, e1, f1⟩ := lend_sl 1 n cs tk
  refine pcx_N rfl (pc_wp (fi := c37) rfl ?_ (by simp [c37]) (by decide) ?_)
  · simp only [pcOn, List.map_cons, List.map_nil, hfL, hf_lend_sl, hf_lend_int, hf_lend_bool, hf_lend_str, hfL_append, Bool.and_self, Bool.and_true, Bool.true_and, c37, hc]
  unfold c37
  rw [List.map_cons, List.map_cons, List.map_nil, e1]
  have o := fun H => refcheck_len n cs u1 H hn hc h
  simp (disch := omega) only [wk, avalE, aactE, evPE, boundE, asNat, bv_seql cellsEq_ii, bv_sneqd cellsEq_ii, readC, allOne, fillL, resE, tupled, ↓reduceIte, Nat.reduceEqDiff, Int.reduceEq, Int.reduceLT, Int.reduceLE, Nat.reduceAdd, Nat.reduceMul, Nat.reduceLT, Nat.reduceLeDiff, reduceCtorEq, lend_int, o, purify, unownT, lend, unown, AV.hf, hfL, Tk.hf]
theorem child_words (h : Hd) (hu : h.u) (ps : List (Int × Int)) (hp : ps.length = 28) (rest : List AV) (tk : Tk) (key : Int) (H : Heap) (hc : hfL rest = true) :
    pcx (cbL tab) 36 [.sl 1 64 (wordsA h ps rest) tk, .int .u64 key] H = some (.plain (childR h ps key)) := by
  have hcs := hf_words h ps rest hc
  obtain ⟨u1, e1, f1⟩ := lend_sl 1 64 (wordsA h ps rest) tk
  refine pcx_N rfl (pc_wp (fi := c36) rfl ?_ (by simp [c36]) (by decide) ?_)
  · simp only [pcOn, List.map_cons, List.map_nil, hfL, hf_lend_sl, hf_lend_int, hf_lend_bool, hf_lend_str, hfL_append, Bool.and_self, Bool.and_true, Bool.true_and, c36, hcs]
  unfold c36
  rw [List.map_cons, List.map_cons, List.map_nil, e1]
  have o := fun H => settled_words h hu ps hp rest u1 H hc
  by_cases hok : h.ok
  case neg =>
    simp only [hok, if_false, nd0_av, false_and] at o
    simp only [hok, childR, if_false]
    simp (disch := omega) only [wk, avalE, aactE, evPE, boundE, asNat, bv_seql cellsEq_ii, bv_sneqd cellsEq_ii, readC, allOne, fillL, resE, tupled, ↓reduceIte, Nat.reduceEqDiff, Int.reduceEq, Int.reduceLT, Int.reduceLE, Nat.reduceAdd, Nat.reduceMul, Nat.reduceLT, Nat.reduceLeDiff, reduceCtorEq, lend_int, o, purify, unownT, lend, unown, AV.hf, hfL, Tk.hf]
  by_cases hk : chkE h ps = 0
  case neg =>
    simp only [hok, hk, chk_two h ps hk, if_false, if_true, nd0_av, true_and] at o
    simp only [hok, hk, childR, if_true, if_false]
    simp (disch := omega) only [wk, avalE, aactE, evPE, boundE, asNat, bv_seql cellsEq_ii, bv_sneqd cellsEq_ii, readC, allOne, fillL, resE, tupled, ↓reduceIte, Nat.reduceEqDiff, Int.reduceEq, Int.reduceLT, Int.reduceLE, Nat.reduceAdd, Nat.reduceMul, Nat.reduceLT, Nat.reduceLeDiff, reduceCtorEq, lend_int, o, purify, unownT, lend, unown, AV.hf, hfL, Tk.hf]
  simp only [hok, hk, if_true, and_self] at o
  simp only [hok, hk, childR, if_true]
  have so := slvR_one (sz := 2) (f := pairA) (rdL h.f ps)
  obtain ⟨z, k, ev, hz, kf⟩ := slv_sl (rdL h.f ps)
  have eN : (ndOf h ps).av = .agg [.int .i64 (h.m - nmark), .int .i64 h.s, .int .u64 h.l, .int .u64 h.f, .int .i64 h.y, slvR 2 pairA (rdL h.f ps)] := rfl
  rw [eN] at o
  rw [ev] at o so
  have hlen := rdL_le h.f ps
  by_cases hm : h.m = nmark
  · have hm0 : h.m - nmark = 0 := by omega
    simp only [hm, if_true]
    rw [hm] at o
    simp (disch := omega) only [wk, avalE, aactE, evPE, boundE, asNat, bv_seql cellsEq_ii, bv_sneqd cellsEq_ii, readC, allOne, fillL, resE, tupled, ↓reduceIte, Nat.reduceEqDiff, Int.reduceEq, Int.reduceLT, Int.reduceLE, Nat.reduceAdd, Nat.reduceMul, Nat.reduceLT, Nat.reduceLeDiff, reduceCtorEq, lend_int, o, so, Int.sub_self, purify, unownT, lend, unown, AV.hf, hfL, Tk.hf]
  have hm0 : ¬ h.m - nmark = 0 := by omega
  simp only [hm, if_false]
  have hma : mayAll (h.m - nmark) h.l (rdL h.f ps) := by
    apply Classical.byContradiction
    intro g
    unfold chkE at hk
    rw [if_neg (fun t => g t.2)] at hk
    cases hk
  have sm := childL_small hm0 key (rdL h.f ps) h.f ((okf hok).2 hm) hma
  generalize rdL h.f ps = R at *
  simp (disch := omega) only [wk, avalE, aactE, evPE, boundE, asNat, bv_seql cellsEq_ii, bv_sneqd cellsEq_ii, readC, allOne, fillL, resE, tupled, ↓reduceIte, Nat.reduceEqDiff, Int.reduceEq, Int.reduceLT, Int.reduceLE, Nat.reduceAdd, Nat.reduceMul, Nat.reduceLT, Nat.reduceLeDiff, reduceCtorEq, lend_int, o, so, hm0]
  refine loop_ind (fun (x : List (Int × Int) × List (Int × Int) × Int) E df H1 => R = x.1 ++ x.2.1 ∧ childL key h.f R = childL key x.2.2 x.2.1 ∧ E 1 = .int .u64 key ∧ E 8 = .int .u64 x.2.2 ∧ E 30 = .sl z R.length (encs pairA R) k ∧ E 31 = .int .i64 (R.length : Nat) ∧ E 32 = .int .i64 (x.1.length : Nat) ∧ df = []) (fun x => x.2.1.length) ([], R, h.f) (by decide) (.inl rfl) ⟨rfl, rfl, rfl, rfl, rfl, rfl, rfl, rfl⟩ ?_
  intro ⟨pre, suf, at_⟩ E df H1 ih hP
  obtain ⟨a1, a2, E1, E8, E30, E31, E32, hdf⟩ := hP
  dsimp only at a1 a2 E8 E32
  subst hdf
  have hRl : R.length = pre.length + suf.length := by rw [a1, List.length_append]
  cases suf with
  | nil =>
    simp only [List.length_nil, Nat.add_zero] at hRl
    rw [childL] at a2
    rw [a2] at sm ⊢
    obtain ⟨b1, b2⟩ := sm
    rw [hRl] at E31
    simp (disch := omega) only [wk, avalE, aactE, evPE, boundE, asNat, bv_seql cellsEq_ii, bv_sneqd cellsEq_ii, readC, allOne, fillL, resE, tupled, ↓reduceIte, Nat.reduceEqDiff, Int.reduceEq, Int.reduceLT, Int.reduceLE, Nat.reduceAdd, Nat.reduceMul, Nat.reduceLT, Nat.reduceLeDiff, reduceCtorEq, E1, E8, E30, E31, E32, purify, unownT, lend, unown, AV.hf, hfL]
  | cons x r =>
    simp only [List.length_cons] at hRl
    obtain rfl := hz (by rw [a1]; simp)
    obtain ⟨kk, q⟩ := x
    have dr : List.drop (pre.length * 2) (encs pairA R) = .int .u64 kk :: .int .u64 q :: encs pairA r := by rw [a1, drop_pre, encs_cons]; rfl
    have e1' : ∀ o : AObj, (H1 ++ [o])[H1.length]? = some o := fun o => by simp
    have e2' : ∀ o q : AObj, (H1 ++ [o]).set H1.length q = H1 ++ [q] := fun o q => by simp
    rw [childL] at a2
    by_cases g : kk ≤ key
    · rw [if_pos g] at a2
      simp (disch := omega) only [wk, avalE, aactE, evPE, boundE, asNat, bv_seql cellsEq_ii, bv_sneqd cellsEq_ii, readC, allOne, fillL, resE, tupled, ↓reduceIte, Nat.reduceEqDiff, Int.reduceEq, Int.reduceLT, Int.reduceLE, Nat.reduceAdd, Nat.reduceMul, Nat.reduceLT, Nat.reduceLeDiff, reduceCtorEq, E1, E8, E30, E31, E32, dr, e1', e2', g]
      refine ih (pre ++ [(kk, q)], r, q) _ _ _ (by simp) ?_
      exact ⟨by rw [a1]; simp, a2, by simp only [en, ↓reduceIte, Nat.reduceEqDiff, E1], by simp only [en, ↓reduceIte, Nat.reduceEqDiff], by simp only [en, ↓reduceIte, Nat.reduceEqDiff, E30], by simp only [en, ↓reduceIte, Nat.reduceEqDiff, E31], by simp only [en, ↓reduceIte, Nat.reduceEqDiff], rfl⟩
    · rw [if_neg g] at a2
      simp (disch := omega) only [wk, avalE, aactE, evPE, boundE, asNat, bv_seql cellsEq_ii, bv_sneqd cellsEq_ii, readC, allOne, fillL, resE, tupled, ↓reduceIte, Nat.reduceEqDiff, Int.reduceEq, Int.reduceLT, Int.reduceLE, Nat.reduceAdd, Nat.reduceMul, Nat.reduceLT, Nat.reduceLeDiff, reduceCtorEq, E1, E8, E30, E31, E32, dr, e1', e2', g]
      refine ih (pre ++ [(kk, q)], r, at_) _ _ _ (by simp) ?_
      exact ⟨by rw [a1]; simp, a2, by simp only [en, ↓reduceIte, Nat.reduceEqDiff, E1], by simp only [en, ↓reduceIte, Nat.reduceEqDiff, E8], by simp only [en, ↓reduceIte, Nat.reduceEqDiff, E30], by simp only [en, ↓reduceIte, Nat.reduceEqDiff, E31], by simp only [en, ↓reduceIte, Nat.reduceEqDiff], rfl⟩
theorem refchild_words (h : Hd) (hu : h.u) (ps : List (Int × Int)) (hp : ps.length = 28) (rest : List AV) (tk : Tk) (key : Int) (H : Heap) (hc : hfL rest = true) :
    pcx (cbL tab) 37 [.sl 1 64 (wordsA h ps rest) tk, .int .u64 key] H = some (.plain (childR h ps key)) := by
  have hcs := hf_words h ps rest hc
  obtain ⟨u1, e1, f1⟩ := lend_sl 1 64 (wordsA h ps rest) tk
  refine pcx_N rfl (pc_wp (fi := c37) rfl ?_ (by simp [c37]) (by decide) ?_)
  · simp only [pcOn, List.map_cons, List.map_nil, hfL, hf_lend_sl, hf_lend_int, hf_lend_bool, hf_lend_str, hfL_append, Bool.and_self, Bool.and_true, Bool.true_and, c37, hcs]
  unfold c37
  rw [List.map_cons, List.map_cons, List.map_nil, e1]
  have o := fun H => refcheck_words h hu ps hp rest u1 H hc
  have o2 := fun H => refof_words h hu ps hp rest u1 H hc
  by_cases hok : h.ok
  case neg =>
    simp only [hok, if_false] at o
    simp only [hok, childR, if_false]
    simp (disch := omega) only [wk, avalE, aactE, evPE, boundE, asNat, bv_seql cellsEq_ii, bv_sneqd cellsEq_ii, readC, allOne, fillL, resE, tupled, ↓reduceIte, Nat.reduceEqDiff, Int.reduceEq, Int.reduceLT, Int.reduceLE, Nat.reduceAdd, Nat.reduceMul, Nat.reduceLT, Nat.reduceLeDiff, reduceCtorEq, lend_int, o, purify, unownT, lend, unown, AV.hf, hfL, Tk.hf]
  by_cases hk : chkE h ps = 0
  case neg =>
    simp only [hok, chk_two h ps hk, if_true] at o
    simp only [hok, hk, childR, if_true, if_false]
    simp (disch := omega) only [wk, avalE, aactE, evPE, boundE, asNat, bv_seql cellsEq_ii, bv_sneqd cellsEq_ii, readC, allOne, fillL, resE, tupled, ↓reduceIte, Nat.reduceEqDiff, Int.reduceEq, Int.reduceLT, Int.reduceLE, Nat.reduceAdd, Nat.reduceMul, Nat.reduceLT, Nat.reduceLeDiff, reduceCtorEq, lend_int, o, purify, unownT, lend, unown, AV.hf, hfL, Tk.hf]
  simp only [hok, hk, if_true] at o o2
  simp only [hok, hk, childR, if_true]
  have so := slvR_one (sz := 2) (f := pairA) (rdL h.f ps)
  obtain ⟨z, k, ev, hz, kf⟩ := slv_sl (rdL h.f ps)
  have eN : (ndOf h ps).av = .agg [.int .i64 (h.m - nmark), .int .i64 h.s, .int .u64 h.l, .int .u64 h.f, .int .i64 h.y, slvR 2 pairA (rdL h.f ps)] := rfl
  rw [eN] at o2
  rw [ev] at o2 so
  have hlen := rdL_le h.f ps
  by_cases hm : h.m = nmark
  · simp only [hm, if_true]
    rw [hm] at o2
    simp (disch := omega) only [wk, avalE, aactE, evPE, boundE, asNat, bv_seql cellsEq_ii, bv_sneqd cellsEq_ii, readC, allOne, fillL, resE, tupled, ↓reduceIte, Nat.reduceEqDiff, Int.reduceEq, Int.reduceLT, Int.reduceLE, Nat.reduceAdd, Nat.reduceMul, Nat.reduceLT, Nat.reduceLeDiff, reduceCtorEq, lend_int, o, o2, so, Int.sub_self, purify, unownT, lend, unown, AV.hf, hfL, Tk.hf]
  have hm0 : ¬ h.m - nmark = 0 := by omega
  simp only [hm, if_false]
  have hma : mayAll (h.m - nmark) h.l (rdL h.f ps) := by
    apply Classical.byContradiction
    intro g
    unfold chkE at hk
    rw [if_neg (fun t => g t.2)] at hk
    cases hk
  have sm := childL_small hm0 key (rdL h.f ps) h.f ((okf hok).2 hm) hma
  generalize rdL h.f ps = R at *
  simp (disch := omega) only [wk, avalE, aactE, evPE, boundE, asNat, bv_seql cellsEq_ii, bv_sneqd cellsEq_ii, readC, allOne, fillL, resE, tupled, ↓reduceIte, Nat.reduceEqDiff, Int.reduceEq, Int.reduceLT, Int.reduceLE, Nat.reduceAdd, Nat.reduceMul, Nat.reduceLT, Nat.reduceLeDiff, reduceCtorEq, lend_int, o, o2, so, hm0]
  refine loop_ind (fun (x : List (Int × Int) × List (Int × Int) × Int) E df H1 => R = x.1 ++ x.2.1 ∧ childL key h.f R = childL key x.2.2 x.2.1 ∧ E 1 = .int .u64 key ∧ E 9 = .int .u64 x.2.2 ∧ E 7 = .ptr 0 0 ∧ E 10 = .int .i64 (x.1.length : Nat) ∧ df = [] ∧ H1 = [.cells [.int .i64 (h.m - nmark), .int .i64 h.s, .int .u64 h.l, .int .u64 h.f, .int .i64 h.y, .sl z R.length (encs pairA R) k]]) (fun x => x.2.1.length) ([], R, h.f) (by decide) (.inl rfl) ⟨rfl, rfl, rfl, rfl, rfl, rfl, rfl, rfl⟩ ?_
  intro ⟨pre, suf, at_⟩ E df H1 ih hP
  obtain ⟨a1, a2, E1, E9, E7, E10, hdf, hh⟩ := hP
  dsimp only at a1 a2 E9 E10
  subst hdf hh
  have hRl : R.length = pre.length + suf.length := by rw [a1, List.length_append]
  cases suf with
  | nil =>
    simp only [List.length_nil, Nat.add_zero] at hRl
    rw [childL] at a2
    rw [a2] at sm ⊢
    obtain ⟨b1, b2⟩ := sm
    have nl : ¬ (pre.length : Int) < R.length := by omega
    simp (disch := omega) only [wk, avalE, aactE, evPE, boundE, asNat, bv_seql cellsEq_ii, bv_sneqd cellsEq_ii, readC, allOne, fillL, resE, tupled, ↓reduceIte, Nat.reduceEqDiff, Int.reduceEq, Int.reduceLT, Int.reduceLE, Nat.reduceAdd, Nat.reduceMul, Nat.reduceLT, Nat.reduceLeDiff, reduceCtorEq, E1, E9, E7, E10, nl, purify, unownT, lend, unown, AV.hf, hfL]
  | cons x r =>
    simp only [List.length_cons] at hRl
    obtain rfl := hz (by rw [a1]; simp)
    obtain ⟨kk, q⟩ := x
    have dr : List.drop (pre.length * 2) (encs pairA R) = .int .u64 kk :: .int .u64 q :: encs pairA r := by rw [a1, drop_pre, encs_cons]; rfl
    rw [childL] at a2
    by_cases g : kk ≤ key
    · rw [if_pos g] at a2
      simp (disch := omega) only [wk, avalE, aactE, evPE, boundE, asNat, bv_seql cellsEq_ii, bv_sneqd cellsEq_ii, readC, allOne, fillL, resE, tupled, ↓reduceIte, Nat.reduceEqDiff, Int.reduceEq, Int.reduceLT, Int.reduceLE, Nat.reduceAdd, Nat.reduceMul, Nat.reduceLT, Nat.reduceLeDiff, reduceCtorEq, E1, E9, E7, E10, dr, g]
      refine ih (pre ++ [(kk, q)], r, q) _ _ _ (by simp) ?_
      exact ⟨by rw [a1]; simp, a2, by simp only [en, ↓reduceIte, Nat.reduceEqDiff, E1], by simp only [en, ↓reduceIte, Nat.reduceEqDiff], by simp only [en, ↓reduceIte, Nat.reduceEqDiff, E7], by simp only [en, ↓reduceIte, Nat.reduceEqDiff], rfl, rfl⟩
    · rw [if_neg g] at a2
      simp (disch := omega) only [wk, avalE, aactE, evPE, boundE, asNat, bv_seql cellsEq_ii, bv_sneqd cellsEq_ii, readC, allOne, fillL, resE, tupled, ↓reduceIte, Nat.reduceEqDiff, Int.reduceEq, Int.reduceLT, Int.reduceLE, Nat.reduceAdd, Nat.reduceMul, Nat.reduceLT, Nat.reduceLeDiff, reduceCtorEq, E1, E9, E7, E10, dr, g]
      refine ih (pre ++ [(kk, q)], r, at_) _ _ _ (by simp) ?_
      exact ⟨by rw [a1]; simp, a2, by simp only [en, ↓reduceIte, Nat.reduceEqDiff, E1], by simp only [en, ↓reduceIte, Nat.reduceEqDiff, E9], by simp only [en, ↓reduceIte, Nat.reduceEqDiff, E7], by simp only [en, ↓reduceIte, Nat.reduceEqDiff], rfl, rfl⟩
end Go.Proofs.Ytailfegmnkldoaa
