/- THE WALK OF THE DOCUMENT'S Check. No condition but those stated. -/
import Derived.Test.YtailfegmnkldoaaN5
set_option linter.unusedSimpArgs false
set_option linter.unusedVariables false
set_option linter.unusedSectionVars false
namespace Go.Proofs.Ytailfegmnkldoaa
open Go Go.Am Go.Slots Go.Nod
set_option maxHeartbeats 8000000
set_option maxRecDepth 10000
theorem slv_sl (l : List (Int × Int)) : ∃ (z : Nat) (k : Tk), slvR 2 pairA l = .sl z l.length (encs pairA l) k ∧ (l ≠ [] → z = 2) ∧ k.hf = true := by
  unfold slvR
  split
  · rename_i he
    exact ⟨0, .z, rfl, fun hne => absurd (List.isEmpty_iff.1 he) hne, rfl⟩
  · exact ⟨2, .ro, rfl, fun _ => rfl, rfl⟩
theorem mayN_ref {v l : Int} (hv : 0 ≤ v) (p : Int × Int) : mayN v l p ↔ rightN v p.2 ∧ l ≤ p.1 ∧ ¬ (0 < v ∧ p.1 = l) := by
  unfold mayN rightN
  by_cases h : v = 0
  · simp only [h, if_true]; omega
  · simp only [h, if_false]
    constructor
    · rintro ⟨h1, h2⟩; exact ⟨h1, by omega, fun k => by omega⟩
    · rintro ⟨h1, h2, h3⟩; exact ⟨h1, by omega⟩
theorem refcheck_len (n : Nat) (cs : List AV) (tk : Tk) (H : Heap) (hn : (n : Int) ≤ 9223372036854775807) (hc : hfL cs = true) (h : n ≠ 64) : pcx (cbL tab) 33 [.sl 1 n cs tk] H = some (.plain (.int .i64 210)) := by
  obtain ⟨u1, e1, f1⟩ := lend_sl 1 n cs tk
  refine pcx_N rfl (pc_wp (fi := c33) rfl ?_ (by simp [c33]) (by decide) ?_)
  · simp only [pcOn, List.map_cons, List.map_nil, hfL, hf_lend_sl, hf_lend_int, hf_lend_bool, hf_lend_str, hfL_append, Bool.and_self, Bool.and_true, Bool.true_and, c33, hc]
  unfold c33
  rw [List.map_cons, List.map_nil, e1]
  have o := fun H => refof_len n cs u1 H hn hc h
  rw [nd0_av] at o
  simp (disch := omega) only [wk, avalE, aactE, evPE, boundE, asNat, bv_seql cellsEq_ii, bv_sneqd cellsEq_ii, readC, allOne, fillL, resE, tupled, ↓reduceIte, Nat.reduceEqDiff, Int.reduceEq, Int.reduceLT, Int.reduceLE, Nat.reduceAdd, Nat.reduceMul, Nat.reduceLT, Nat.reduceLeDiff, reduceCtorEq, o, purify, unownT, lend, unown, AV.hf, hfL, Tk.hf]
theorem refcheck_words (h : Hd) (hu : h.u) (ps : List (Int × Int)) (hp : ps.length = 28) (rest : List AV) (tk : Tk) (H : Heap) (hc : hfL rest = true) :
    pcx (cbL tab) 33 [.sl 1 64 (wordsA h ps rest) tk] H = some (.plain (.int .i64 (if h.ok then chkE h ps else 210))) := by
  have hcs := hf_words h ps rest hc
  obtain ⟨u1, e1, f1⟩ := lend_sl 1 64 (wordsA h ps rest) tk
  refine pcx_N rfl (pc_wp (fi := c33) rfl ?_ (by simp [c33]) (by decide) ?_)
  · simp only [pcOn, List.map_cons, List.map_nil, hfL, hf_lend_sl, hf_lend_int, hf_lend_bool, hf_lend_str, hfL_append, Bool.and_self, Bool.and_true, Bool.true_and, c33, hcs]
  unfold c33
  rw [List.map_cons, List.map_nil, e1]
  have o := fun H => refof_words h hu ps hp rest u1 H hc
  by_cases hok : h.ok
  case neg =>
    simp only [hok, if_false, nd0_av] at o
    simp only [hok, if_false]
    simp (disch := omega) only [wk, avalE, aactE, evPE, boundE, asNat, bv_seql cellsEq_ii, bv_sneqd cellsEq_ii, readC, allOne, fillL, resE, tupled, ↓reduceIte, Nat.reduceEqDiff, Int.reduceEq, Int.reduceLT, Int.reduceLE, Nat.reduceAdd, Nat.reduceMul, Nat.reduceLT, Nat.reduceLeDiff, reduceCtorEq, o, purify, unownT, lend, unown, AV.hf, hfL, Tk.hf]
  simp only [hok, if_true] at o ⊢
  have hlen := rdL_le h.f ps
  have sc : ∀ H, pcx (cbL tab) 66 [.int .u64 h.f, .sl 1 56 (encs pairA ps ++ rest) .ro] H = some (.plain (.int .i64 (if okL h.f ps then 0 else 190))) := fun H => by
    have := check_yes h.f ps rest .ro H hc (Hd.row hok hp)
    rwa [row, hp] at this
  have lw : 56 ≤ (encs pairA ps).length + rest.length := by rw [encs_length (f := pairA) (k := 2), hp]; omega
  have ew : wordsA h ps rest = .int .u64 h.m :: .int .u64 h.s :: .int .u64 h.l :: .int .u64 h.f :: .int .u64 h.y :: .int .u64 h.a :: .int .u64 h.b :: .int .u64 h.c :: (encs pairA ps ++ rest) := rfl
  have so := slvR_one (sz := 2) (f := pairA) (rdL h.f ps)
  obtain ⟨z, k, ev, hz, kf⟩ := slv_sl (rdL h.f ps)
  have eNd : (ndOf h ps).av = .agg [.int .i64 (h.m - nmark), .int .i64 h.s, .int .u64 h.l, .int .u64 h.f, .int .i64 h.y, slvR 2 pairA (rdL h.f ps)] := rfl
  rw [eNd] at o
  rw [ev] at o so
  rw [ew] at o ⊢
  by_cases h1 : okL h.f ps
  case neg =>
    have e0 : chkE h ps = 190 := if_neg (fun k => h1 k.1)
    simp only [h1, if_false] at sc
    simp only [e0]
    simp (disch := omega) only [wk, avalE, aactE, evPE, boundE, asNat, bv_seql cellsEq_ii, bv_sneqd cellsEq_ii, readC, allOne, fillL, resE, tupled, ↓reduceIte, Nat.reduceEqDiff, Int.reduceEq, Int.reduceLT, Int.reduceLE, Nat.reduceAdd, Nat.reduceMul, Nat.reduceLT, Nat.reduceLeDiff, reduceCtorEq, Int.reduceToNat, Int.reduceAdd, Int.reduceSub, Int.reduceMul, Int.reduceNeg, Nat.reduceSub, Nat.reduceDiv, o, sc, so, runG_un, purify, unownT, lend, unown, AV.hf, hfL, Tk.hf]
  simp only [h1, if_true] at sc
  have hv : 0 ≤ h.m - nmark := by have := hok.1; omega
  have ce : chkE h ps = if mayAll (h.m - nmark) h.l (rdL h.f ps) then 0 else 190 := by simp [chkE, h1]
  generalize chkE h ps = C at ce ⊢
  generalize rdL h.f ps = R at *
  simp (disch := omega) only [wk, avalE, aactE, evPE, boundE, asNat, bv_seql cellsEq_ii, bv_sneqd cellsEq_ii, readC, allOne, fillL, resE, tupled, ↓reduceIte, Nat.reduceEqDiff, Int.reduceEq, Int.reduceLT, Int.reduceLE, Nat.reduceAdd, Nat.reduceMul, Nat.reduceLT, Nat.reduceLeDiff, reduceCtorEq, Int.reduceToNat, Int.reduceAdd, Int.reduceSub, Int.reduceMul, Int.reduceNeg, Nat.reduceSub, Nat.reduceDiv, o, sc, so]
  refine loop_ind (fun (x : List (Int × Int) × List (Int × Int)) E df H1 => R = x.1 ++ x.2 ∧ (mayAll (h.m - nmark) h.l R ↔ mayAll (h.m - nmark) h.l x.2) ∧ E 3 = .ptr 0 0 ∧ E 5 = .int .i64 (x.1.length : Nat) ∧ df = [] ∧
      H1[0]? = some (.cells [.int .i64 (h.m - nmark), .int .i64 h.s, .int .u64 h.l, .int .u64 h.f, .int .i64 h.y, .sl z R.length (encs pairA R) k])) (fun x => x.2.length) ([], R) (by decide) (.inl rfl) ⟨rfl, Iff.rfl, rfl, rfl, rfl, rfl⟩ ?_
  intro ⟨pre, suf⟩ E df H1 ih hP
  obtain ⟨a1, a2, E3, E5, hdf, hh⟩ := hP
  dsimp only at a1 a2 E5
  subst hdf
  have hRl : R.length = pre.length + suf.length := by rw [a1, List.length_append]
  cases suf with
  | nil =>
    simp only [List.length_nil, Nat.add_zero] at hRl
    have m0 : mayAll (h.m - nmark) h.l R := by rw [a2]; simp [mayAll]
    rw [if_pos m0] at ce
    rw [hRl] at hh
    simp (disch := omega) only [wk, avalE, aactE, evPE, boundE, asNat, bv_seql cellsEq_ii, bv_sneqd cellsEq_ii, readC, allOne, fillL, resE, tupled, ↓reduceIte, Nat.reduceEqDiff, Int.reduceEq, Int.reduceLT, Int.reduceLE, Nat.reduceAdd, Nat.reduceMul, Nat.reduceLT, Nat.reduceLeDiff, reduceCtorEq, E3, E5, hh, ce, purify, unownT, lend, unown, AV.hf]
  | cons x r =>
    simp only [List.length_cons] at hRl
    obtain rfl := hz (by rw [a1]; simp)
    obtain ⟨kk, q⟩ := x
    have dr : List.drop (pre.length * 2) (encs pairA R) = .int .u64 kk :: .int .u64 q :: encs pairA r := by rw [a1, drop_pre, encs_cons]; rfl
    have e1' : ∀ o : AObj, (H1 ++ [o])[H1.length]? = some o := fun o => by simp
    have e0' : ∀ o : AObj, (H1 ++ [o])[0]? = H1[0]? := fun o => List.getElem?_append_left (by have := (List.getElem?_eq_some_iff.1 hh).1; exact this)
    have e2' : ∀ o q : AObj, (H1 ++ [o]).set H1.length q = H1 ++ [q] := fun o q => by simp
    have a3 : mayAll (h.m - nmark) h.l ((kk, q) :: r) ↔ mayN (h.m - nmark) h.l (kk, q) ∧ mayAll (h.m - nmark) h.l r := by simp [mayAll]
    have mr := mayN_ref (l := h.l) hv (kk, q)
    have rr := refright_px (h.m - nmark) q
    dsimp only at mr
    simp only [a2, a3, mr] at ce
    by_cases g1 : rightN (h.m - nmark) q
    case neg =>
      have c9 : C = 190 := by rw [ce, if_neg (fun t => g1 t.1.1)]
      simp only [g1, decide_false] at rr
      simp (disch := omega) only [wk, avalE, aactE, evPE, boundE, asNat, bv_seql cellsEq_ii, bv_sneqd cellsEq_ii, readC, allOne, fillL, resE, tupled, ↓reduceIte, Nat.reduceEqDiff, Int.reduceEq, Int.reduceLT, Int.reduceLE, Nat.reduceAdd, Nat.reduceMul, Nat.reduceLT, Nat.reduceLeDiff, reduceCtorEq, E3, E5, hh, dr, e0', e1', e2', rr, runG_un, c9, purify, unownT, lend, unown, AV.hf]
    simp only [g1, decide_true] at rr
    by_cases g2 : kk < h.l
    · have c9 : C = 190 := by rw [ce, if_neg (fun t => by have := t.1.2.1; omega)]
      simp (disch := omega) only [wk, avalE, aactE, evPE, boundE, asNat, bv_seql cellsEq_ii, bv_sneqd cellsEq_ii, readC, allOne, fillL, resE, tupled, ↓reduceIte, Nat.reduceEqDiff, Int.reduceEq, Int.reduceLT, Int.reduceLE, Nat.reduceAdd, Nat.reduceMul, Nat.reduceLT, Nat.reduceLeDiff, reduceCtorEq, E3, E5, hh, dr, e0', e1', e2', rr, g2, runG_un, c9, purify, unownT, lend, unown, AV.hf]
    by_cases g3 : h.m - nmark > 0
    · by_cases g4 : kk = h.l
      · have c9 : C = 190 := by rw [ce, if_neg (fun t => t.1.2.2 ⟨g3, g4⟩)]
        simp (disch := omega) only [wk, avalE, aactE, evPE, boundE, asNat, bv_seql cellsEq_ii, bv_sneqd cellsEq_ii, readC, allOne, fillL, resE, tupled, ↓reduceIte, Nat.reduceEqDiff, Int.reduceEq, Int.reduceLT, Int.reduceLE, Nat.reduceAdd, Nat.reduceMul, Nat.reduceLT, Nat.reduceLeDiff, reduceCtorEq, E3, E5, hh, dr, e0', e1', e2', rr, g2, g3, g4, runG_un, c9, purify, unownT, lend, unown, AV.hf]
        done
      · simp (disch := omega) only [wk, avalE, aactE, evPE, boundE, asNat, bv_seql cellsEq_ii, bv_sneqd cellsEq_ii, readC, allOne, fillL, resE, tupled, ↓reduceIte, Nat.reduceEqDiff, Int.reduceEq, Int.reduceLT, Int.reduceLE, Nat.reduceAdd, Nat.reduceMul, Nat.reduceLT, Nat.reduceLeDiff, reduceCtorEq, E3, E5, hh, dr, e0', e1', e2', rr, g2, g3, g4, runG_un]
        refine ih (pre ++ [(kk, q)], r) _ _ _ (by simp) ?_
        exact ⟨by rw [a1]; simp, by rw [a2, a3, mr]; exact ⟨fun t => t.2, fun t => ⟨⟨g1, by omega, fun w => g4 w.2⟩, t⟩⟩, by simp only [en, ↓reduceIte, Nat.reduceEqDiff, E3], by simp only [en, ↓reduceIte, Nat.reduceEqDiff], rfl, by rw [e0', hh]⟩
    · simp (disch := omega) only [wk, avalE, aactE, evPE, boundE, asNat, bv_seql cellsEq_ii, bv_sneqd cellsEq_ii, readC, allOne, fillL, resE, tupled, ↓reduceIte, Nat.reduceEqDiff, Int.reduceEq, Int.reduceLT, Int.reduceLE, Nat.reduceAdd, Nat.reduceMul, Nat.reduceLT, Nat.reduceLeDiff, reduceCtorEq, E3, E5, hh, dr, e0', e1', e2', rr, g2, g3, runG_un]
      refine ih (pre ++ [(kk, q)], r) _ _ _ (by simp) ?_
      exact ⟨by rw [a1]; simp, by rw [a2, a3, mr]; exact ⟨fun t => t.2, fun t => ⟨⟨g1, by omega, fun w => g3 w.1⟩, t⟩⟩, by simp only [en, ↓reduceIte, Nat.reduceEqDiff, E3], by simp only [en, ↓reduceIte, Nat.reduceEqDiff], rfl, by rw [e0', hh]⟩
end Go.Proofs.Ytailfegmnkldoaa
