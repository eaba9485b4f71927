/- THE WALK OF Each, for any consumer. No condition but those stated. -/
import Derived.Test.YtailfegmnkldoaaS2
import Derived.Test.YtailfegmnkldoaaAmRng
set_option linter.unusedSimpArgs false
set_option linter.unusedVariables false
set_option linter.unusedSectionVars false
namespace Go.Proofs.Ytailfegmnkldoaa
open Go Go.Am Go.Slots
set_option maxHeartbeats 2000000
set_option maxRecDepth 10000
/-- What is asked of a consumer: of a state that memory shows. -/
structure YS {σ : Type} (id k0 : Nat) (cnt : σ → Nat) (ok : σ → Nat → Int × Int → Prop) (R : σ → Heap → Prop) (stp : σ → Nat → Int × Int → σ × Bool) : Prop where
  step : ∀ s H (j : Nat) x, k0 ≤ H.length → cnt s ≤ j → j ≤ 1000 → ok s j x → R s H → cnt (stp s j x).1 ≤ j + 1 ∧ ∃ H', (cbL tab).yl id [.int .i64 (j : Nat), .agg (pairA x)] H = some (.ret (.bool (stp s j x).2), H') ∧ R (stp s j x).1 H' ∧ H.length ≤ H'.length ∧
    ∀ i cs, k0 ≤ i → H[i]? = some (.cells cs) → H'[i]? = some (.cells cs)
  push : ∀ s H o, R s H → R s (H ++ [o])
  set : ∀ s H i cs cs', k0 ≤ i → R s H → H[i]? = some (.cells cs) → R s (H.set i (.cells cs'))
theorem each_ic_no {σ : Type} {R : σ → Heap → Prop} {stp : σ → Nat → Int × Int → σ × Bool} {id k0 a b : Nat} {cnt : σ → Nat} {ok : σ → Nat → Int × Int → Prop} (ys : YS id k0 cnt ok R stp) {s0 : σ} {H : Heap} (hk : k0 ≤ H.length) (hR : R s0 H) {left : Int} {n : Nat} {cs : List AV} {tk : Tk}
    (ha : H[a]? = some (.cells [.sl 1 n cs tk])) (hb : H[b]? = some (.cells [.int .u64 left])) (hn : (n : Int) ≤ 9223372036854775807) (hc : hfL cs = true) (ht : tk.hf = true) (hr : ¬ right left n) :
    ∃ o H', (cbL tab).ic 114 [.yld id, .ptr a 0, .ptr b 0] H = some (o, H') ∧ o = .ret (.tup []) ∧ R s0 H' ∧ H.length ≤ H'.length := by
  refine ic_wp (fi := c114) rfl (by simp [pcOn, c114, lend, unown, hfL, AV.hf]) (by simp [c114]) (by decide) ?_
  unfold c114
  have r1 := fun H => slotsright_px left n cs tk H hn hc ht
  unfold rowV at r1
  have e0 : List.length H < (H ++ [AObj.cells [AV.sl 0 0 [] Tk.z, AV.int IntKind.u64 0]]).length := by simp
  simp (disch := omega) only [wk, avalE, aactE, evPE, boundE, asNat, bv_seql cellsEq_ii, bv_sneqd cellsEq_ii, readC, allOne, fillL, resE, tupled, ↓reduceIte, Nat.reduceEqDiff, Int.reduceEq, Int.reduceLT, Int.reduceLE, Nat.reduceAdd, Nat.reduceMul, Nat.reduceLT, Nat.reduceLeDiff, reduceCtorEq, ha, hb, List.drop_zero, List.length_append]
  have e1 : ∀ o : AObj, (H ++ [o])[H.length]? = some o := fun o => by simp
  have e2 : ∀ o o' : AObj, ((H ++ [o]).set H.length o')[H.length]? = some o' := fun o o' => by simp
  simp (disch := omega) only [wk, avalE, aactE, evPE, boundE, asNat, bv_seql cellsEq_ii, bv_sneqd cellsEq_ii, readC, allOne, fillL, resE, tupled, ↓reduceIte, Nat.reduceEqDiff, Int.reduceEq, Int.reduceLT, Int.reduceLE, Nat.reduceAdd, Nat.reduceMul, Nat.reduceLT, Nat.reduceLeDiff, reduceCtorEq, ha, hb, e1, e2, r1, hr, Bool.not_false]
  exact ⟨ys.set _ _ _ _ _ hk (ys.push _ _ _ hR) (e1 _), by simp⟩
theorem each_ic {σ : Type} {R : σ → Heap → Prop} {stp : σ → Nat → Int × Int → σ × Bool} {id k0 a b : Nat} {cnt : σ → Nat} {ok : σ → Nat → Int × Int → Prop} (ys : YS id k0 cnt ok R stp) {s0 : σ} {H : Heap} (hk : k0 ≤ H.length) (hR : R s0 H) {left : Int} {ps : List (Int × Int)} {rest : List AV} {tk : Tk}
    (ha : H[a]? = some (.cells [row ps rest tk])) (hb : H[b]? = some (.cells [.int .u64 left])) (hc : hfL rest = true) (ht : tk.hf = true) (hr : right left (2 * ps.length)) (hcnt : cnt s0 = 0) (hok : okRun ok stp s0 (eachL left 0 ps)) :
    ∃ o H', (cbL tab).ic 114 [.yld id, .ptr a 0, .ptr b 0] H = some (o, H') ∧ o = .ret (.tup []) ∧ R (runY stp s0 (eachL left 0 ps)) H' ∧ H.length ≤ H'.length := by
  refine ic_wp (fi := c114) rfl (by simp [pcOn, c114, lend, unown, hfL, AV.hf]) (by simp [c114]) (by decide) ?_
  unfold c114
  have hn := hr.2.2.2
  have hcs : hfL (encs pairA ps ++ rest) = true := by rw [hfL_append, hf_pairA, hc]; rfl
  have r1 := fun H => slotsright_px left (2 * ps.length) (encs pairA ps ++ rest) tk H (by omega) hcs ht
  have r2 := fun H => slotsraw_px left ps rest tk H (by omega) hc ht
  unfold rowV at r1 r2
  rw [row] at ha
  have e1 : ∀ o : AObj, (H ++ [o])[H.length]? = some o := fun o => by simp
  have e2 : ∀ o o' : AObj, ((H ++ [o]).set H.length o')[H.length]? = some o' := fun o o' => by simp
  simp (disch := omega) only [wk, avalE, aactE, evPE, boundE, asNat, bv_seql cellsEq_ii, bv_sneqd cellsEq_ii, readC, allOne, fillL, resE, tupled, ↓reduceIte, Nat.reduceEqDiff, Int.reduceEq, Int.reduceLT, Int.reduceLE, Nat.reduceAdd, Nat.reduceMul, Nat.reduceLT, Nat.reduceLeDiff, reduceCtorEq, ha, hb, e1, e2, r1, r2, hr, Bool.not_true]
  have hrw := rawL_le ps
  refine loop_ind (fun (x : List (Int × Int) × List (Int × Int) × σ) E df H1 => ps = x.1 ++ x.2.1 ∧ rawL ps = x.1.length + rawL x.2.1 ∧ runY stp s0 (eachL left 0 ps) = runY stp x.2.2 (eachL (lastP left x.1) x.1.length x.2.1) ∧ E 0 = .yld id ∧ E 4 = .ptr H.length 0 ∧
      E 13 = .int .i64 (rawL ps : Nat) ∧ E 14 = .int .i64 (x.1.length : Nat) ∧ df = [] ∧ H1[H.length]? = some (.cells [row ps rest tk, .int .u64 left]) ∧ R x.2.2 H1 ∧ H.length ≤ H1.length ∧ cnt x.2.2 ≤ x.1.length ∧ okRun ok stp x.2.2 (eachL (lastP left x.1) x.1.length x.2.1))
    (fun x => x.2.1.length) ([], ps, s0) (by decide) (.inl rfl) ⟨rfl, by simp, rfl, rfl, rfl, rfl, rfl, rfl, e2 _ _, ys.set _ _ _ _ _ hk (ys.push _ _ _ hR) (e1 _), by simp, by simp [hcnt], hok⟩ ?_
  intro ⟨pre, suf, s⟩ E df H1 ih hP
  obtain ⟨a1, a2, a3, E0, E4, E13, E14, hdf, hH, hR1, hle, hct, hok1⟩ := hP
  dsimp only at a1 a2 a3 E14 hR1 hct hok1
  subst hdf a1
  simp only [List.length_append] at hn
  cases suf with
  | nil =>
    simp only [rawL, Nat.add_zero, eachL, runY] at a2 a3
    simp (disch := omega) only [wk, avalE, aactE, evPE, boundE, asNat, bv_seql cellsEq_ii, bv_sneqd cellsEq_ii, readC, allOne, fillL, resE, tupled, ↓reduceIte, Nat.reduceEqDiff, Int.reduceEq, Int.reduceLT, Int.reduceLE, Nat.reduceAdd, Nat.reduceMul, Nat.reduceLT, Nat.reduceLeDiff, reduceCtorEq, E0, E4, E13, E14, a2]
    rw [a3]
    exact ⟨hR1, hle⟩
  | cons x r =>
    simp only [List.length_cons] at hn
    by_cases hx : x.2 = 0
    · simp only [rawL, hx, if_true, Nat.add_zero, eachL, runY] at a2 a3
      simp (disch := omega) only [wk, avalE, aactE, evPE, boundE, asNat, bv_seql cellsEq_ii, bv_sneqd cellsEq_ii, readC, allOne, fillL, resE, tupled, ↓reduceIte, Nat.reduceEqDiff, Int.reduceEq, Int.reduceLT, Int.reduceLE, Nat.reduceAdd, Nat.reduceMul, Nat.reduceLT, Nat.reduceLeDiff, reduceCtorEq, E0, E4, E13, E14, a2]
      rw [a3]
      exact ⟨hR1, hle⟩
    have hl : (pre ++ x :: r).length ≤ 1000 := by simp only [List.length_append, List.length_cons]; omega
    have p1 := fun H => ptr_px pre x r rest tk H hl hc ht
    have p2 := fun H => key_px pre x r rest tk H hl hc ht
    have p3 := fun H => slotsahead_px left pre (x :: r) rest tk H hl hc ht
    have hraw : pre.length < rawL (pre ++ x :: r) := by rw [a2]; simp only [rawL, hx, if_false]; omega
    simp only [rowV, row, List.length_append, List.length_cons] at p1 p2 p3 hH
    by_cases hq : x.2 = lastP left pre
    · have hok2 : okRun ok stp s (eachL x.2 (pre.length + 1) r) := by
        have h := hok1
        rw [eachL, if_neg hx, if_pos hq] at h
        exact h
      simp (disch := omega) only [wk, avalE, aactE, evPE, boundE, asNat, bv_seql cellsEq_ii, bv_sneqd cellsEq_ii, readC, allOne, fillL, resE, tupled, ↓reduceIte, Nat.reduceEqDiff, Int.reduceEq, Int.reduceLT, Int.reduceLE, Nat.reduceAdd, Nat.reduceMul, Nat.reduceLT, Nat.reduceLeDiff, reduceCtorEq, E0, E4, E13, E14, hH, p1, p2, p3, hq]
      refine ih (pre ++ [x], r, s) _ _ _ (by simp) ?_
      refine ⟨by simp, by simp only [a2, rawL, hx, if_false, List.length_append, List.length_cons, List.length_nil]; omega, ?_, by simp only [en, ↓reduceIte, Nat.reduceEqDiff, E0], by simp only [en, ↓reduceIte, Nat.reduceEqDiff, E4], by simp only [en, ↓reduceIte, Nat.reduceEqDiff, E13], by simp only [en, ↓reduceIte, Nat.reduceEqDiff], rfl, by simpa [row] using hH, hR1, hle, by simp; omega, by simpa only [lastP_snoc, List.length_append, List.length_cons, List.length_nil, Nat.zero_add] using hok2⟩
      rw [a3]
      simp only [eachL, hx, if_false, ← hq, if_true, lastP_snoc, List.length_append, List.length_cons, List.length_nil, Nat.zero_add]
    · have hok2 : ok s pre.length x ∧ ((stp s pre.length x).2 = true → okRun ok stp (stp s pre.length x).1 (eachL x.2 (pre.length + 1) r)) := by
        have h := hok1
        rw [eachL, if_neg hx, if_neg hq] at h
        exact h
      obtain ⟨y0, H2, y1, y2, y3, y4⟩ := ys.step s H1 pre.length x (Nat.le_trans hk hle) hct (by omega) hok2.1 hR1
      rw [pairA] at y1
      have hH2 := y4 _ _ hk hH
      by_cases hst : (stp s pre.length x).2 = true
      · simp (disch := omega) only [wk, avalE, aactE, evPE, boundE, asNat, bv_seql cellsEq_ii, bv_sneqd cellsEq_ii, readC, allOne, fillL, resE, tupled, ↓reduceIte, Nat.reduceEqDiff, Int.reduceEq, Int.reduceLT, Int.reduceLE, Nat.reduceAdd, Nat.reduceMul, Nat.reduceLT, Nat.reduceLeDiff, reduceCtorEq, E0, E4, E13, E14, hH, p1, p2, p3, hq, y1, hst, Bool.not_true]
        refine ih (pre ++ [x], r, (stp s pre.length x).1) _ _ _ (by simp) ?_
        refine ⟨by simp, by simp only [a2, rawL, hx, if_false, List.length_append, List.length_cons, List.length_nil]; omega, ?_, by simp only [en, ↓reduceIte, Nat.reduceEqDiff, E0], by simp only [en, ↓reduceIte, Nat.reduceEqDiff, E4], by simp only [en, ↓reduceIte, Nat.reduceEqDiff, E13], by simp only [en, ↓reduceIte, Nat.reduceEqDiff], rfl, by simpa [row] using hH2, y2, by omega, by simpa using y0, by simpa only [lastP_snoc, List.length_append, List.length_cons, List.length_nil, Nat.zero_add] using hok2.2 hst⟩
        rw [a3]
        simp only [eachL, hx, if_false, hq, lastP_snoc, List.length_append, List.length_cons, List.length_nil, Nat.zero_add, runY, hst, if_true]
      · have hst' : (stp s pre.length x).2 = false := by simpa using hst
        simp (disch := omega) only [wk, avalE, aactE, evPE, boundE, asNat, bv_seql cellsEq_ii, bv_sneqd cellsEq_ii, readC, allOne, fillL, resE, tupled, ↓reduceIte, Nat.reduceEqDiff, Int.reduceEq, Int.reduceLT, Int.reduceLE, Nat.reduceAdd, Nat.reduceMul, Nat.reduceLT, Nat.reduceLeDiff, reduceCtorEq, E0, E4, E13, E14, hH, p1, p2, p3, hq, y1, hst', Bool.not_false]
        rw [a3]
        simp only [eachL, hx, if_false, hq, runY, hst, Bool.false_eq_true]
        exact ⟨y2, by omega⟩
end Go.Proofs.Ytailfegmnkldoaa
