/- THE LAW WalkEnds COMES TO true. No condition but those stated. -/
import Derived.Test.YtmogflndepihnaaDoorW9
import Derived.Test.YtmogflndepihnaaDoorLNo
set_option linter.unusedSimpArgs false
set_option linter.unusedVariables false
set_option linter.unusedSectionVars false
namespace Go.Proofs.YtmogflndepihnaaDoor
open Go Go.Am Go.Nam Go.Wlk Go.Rec
set_option maxHeartbeats 4000000
set_option maxRecDepth 10000
theorem findM_few {l : List Pl} (h : fewB l = true) {d : Int} {n : List UInt8} {f : Fnd} (hf : findM l d n = some f) : f.target.length ≤ 112 := by
  unfold fewB at h
  rw [Bool.and_eq_true] at h
  have h2 := h.2
  clear h
  induction l with
  | nil => cases hf
  | cons x r ih =>
    rw [List.all_cons, Bool.and_eq_true] at h2
    rw [findM] at hf
    split at hf
    · cases hf; exact of_decide_eq_true h2.1
    · exact ih hf h2.2
theorem walkEnds_pc {x0 x1 x2 : AV} (h0 : OkS .str x0) (h1 : OkS .bool x1) (h2 : OkS (.slice [.int .i64, .str, .int .i64, .int .i64, .str]) x2) : (cbL tab).pc 9 [x0, x1, x2] = some (.plain (.bool true)) := by
  cases h0 with
  | str s hs =>
  have hb := bs_eta s
  generalize s.data.toList = p at hb
  subst hb
  cases h1 with
  | bool fol =>
  obtain ⟨l, tk, rfl, hlen, htk⟩ := ok_places h2
  obtain ⟨u1, e1, f1⟩ := lend_sl 5 l.length (encs placeA l) tk
  refine pc_wp (fi := c9) rfl ?_ (by simp [c9]) (by decide) ?_
  · simp only [pcOn, List.map_cons, List.map_nil, hfL, hf_lend_sl, hf_lend_int, hf_lend_bool, hf_lend_str, hfL_append, Bool.and_self, Bool.and_true, Bool.true_and, c9, hf_placeA]
  unfold c9
  rw [List.map_cons, List.map_cons, List.map_cons, List.map_nil, e1, lend_str, lend_bool]
  by_cases hp : 1000 < p.length
  · have h' : (1000 : Int) < (p.length : Nat) := by omega
    simp (disch := omega) only [wk, avalE, aactE, evPE, boundE, asNat, bv_seql cellsEq_ii, bv_sneqd cellsEq_ii, readC, allOne, fillL, resE, tupled, ↓reduceIte, Nat.reduceEqDiff, Int.reduceEq, Int.reduceLT, Int.reduceLE, Nat.reduceAdd, Nat.reduceMul, Nat.reduceLT, Nat.reduceLeDiff, reduceCtorEq, bs_size, h', works17_px, purify, unownT, AV.hf]
  have hp1 : ¬ (1000 : Int) < (p.length : Nat) := by omega
  have fw := fun H => few17_px l u1 f1 hlen H
  cases hfew : fewB l with
  | false =>
    rw [hfew] at fw
    simp (disch := omega) only [wk, avalE, aactE, evPE, boundE, asNat, bv_seql cellsEq_ii, bv_sneqd cellsEq_ii, readC, allOne, fillL, resE, tupled, ↓reduceIte, Nat.reduceEqDiff, Int.reduceEq, Int.reduceLT, Int.reduceLE, Nat.reduceAdd, Nat.reduceMul, Nat.reduceLT, Nat.reduceLeDiff, reduceCtorEq, bs_size, hp1, fw, works17_px, purify, unownT, AV.hf]
  | true =>
  rw [hfew] at fw
  have hl60 : l.length ≤ 60 := by
    unfold fewB at hfew
    rw [Bool.and_eq_true] at hfew
    exact of_decide_eq_true hfew.1
  by_cases ep : partsE p = 0
  case neg =>
    have nn := fun H => new_no (fol := fol) (by omega) ep H
    simp (disch := omega) only [wk, avalE, aactE, evPE, boundE, asNat, bv_seql cellsEq_ii, bv_sneqd cellsEq_ii, readC, allOne, fillL, resE, tupled, ↓reduceIte, Nat.reduceEqDiff, Int.reduceEq, Int.reduceLT, Int.reduceLE, Nat.reduceAdd, Nat.reduceMul, Nat.reduceLT, Nat.reduceLeDiff, reduceCtorEq, bs_size, hp1, fw, nn, num17_px, ep, works17_px, in_none, runE_none ll_none, in_Asks, runE_none ll_Asks, in_Give, runE_none ll_Give, in_Miss, runE_none ll_Miss, in_Done, runE_none ll_Done, in_Copy, runE_none ll_Copy, in_on, runE_none ll_on, in_asked, runE_none ll_asked, in_into, runE_none ll_into, in_through, runE_none ll_through, in_ends, runE_none ll_ends, in_Left, runE_none ll_Left, in_New, runE_none ll_New, in_same, runE_none ll_same, purify, unownT, AV.hf]
  obtain ⟨H0, q1, q2, q3⟩ := new_ic (fol := fol) (by omega) ep []
  simp only [List.length_nil] at q1 q2
  simp (disch := omega) only [wk, avalE, aactE, evPE, boundE, asNat, bv_seql cellsEq_ii, bv_sneqd cellsEq_ii, readC, allOne, fillL, resE, tupled, ↓reduceIte, Nat.reduceEqDiff, Int.reduceEq, Int.reduceLT, Int.reduceLE, Nat.reduceAdd, Nat.reduceMul, Nat.reduceLT, Nat.reduceLeDiff, reduceCtorEq, bs_size, hp1, fw, q1, num17_px, in_none, runE_none ll_none, in_Asks, runE_none ll_Asks, in_Give, runE_none ll_Give, in_Miss, runE_none ll_Miss, in_Done, runE_none ll_Done, in_Copy, runE_none ll_Copy, in_on, runE_none ll_on, in_asked, runE_none ll_asked, in_into, runE_none ll_into, in_through, runE_none ll_through, in_ends, runE_none ll_ends, in_Left, runE_none ll_Left, in_New, runE_none ll_New, in_same, runE_none ll_same]
  refine loop_ind (fun (x : Wk × Nat) E df H => Wat H 0 x.1 ∧ (x.1.fin.isSome = true ∨ (Asking x.1 ∧ x.2 + mu x.1 ≤ 948)) ∧ E 2 = .sl 5 l.length (encs placeA l) u1 ∧ E 7 = .ptr 0 0 ∧ E 9 = .int .i64 (x.2 : Nat) ∧ df = [])
    (fun x => if x.1.fin.isSome then 0 else mu x.1 + 1) (newM p fol, 0) (by decide) (.inl rfl) ⟨q2, ?_, rfl, rfl, rfl, rfl⟩ ?_
  · rcases newM_step ep fol with h | ⟨h1, h2⟩
    · exact .inl h
    · exact .inr ⟨h1, by dsimp only; omega⟩
  clear q1 q2 q3 H0
  intro ⟨w, n⟩ E df H ih hP
  obtain ⟨hW, hA, E2, E7, E9, hdf⟩ := hP
  dsimp only at hW hA E9
  subst hdf
  by_cases hfin : w.fin.isSome = true
  · have ao := asks_over hW hfin
    have dn := done_ic hW
    rw [hfin] at dn
    have g0 : ∀ (L : List AObj), (H ++ L)[H.length]? = L[0]? := fun L => by rw [List.getElem?_append_right (by omega)]; congr 1; omega
    have g1 : ∀ x y : AObj, (H ++ [x] ++ [y])[H.length + 1]? = some y := fun x y => by rw [List.append_assoc, List.getElem?_append_right (by omega), show H.length + 1 - H.length = 1 by omega]; rfl
    unfold Wd.cells at dn
    simp (disch := omega) only [wk, avalE, aactE, evPE, boundE, asNat, bv_seql cellsEq_ii, bv_sneqd cellsEq_ii, readC, allOne, fillL, resE, tupled, ↓reduceIte, Nat.reduceEqDiff, Int.reduceEq, Int.reduceLT, Int.reduceLE, Nat.reduceAdd, Nat.reduceMul, Nat.reduceLT, Nat.reduceLeDiff, reduceCtorEq, E2, E7, E9, ao, dn, g1, works17_px, in_none, runE_none ll_none, in_Asks, runE_none ll_Asks, in_Give, runE_none ll_Give, in_Miss, runE_none ll_Miss, in_Done, runE_none ll_Done, in_Copy, runE_none ll_Copy, in_on, runE_none ll_on, in_asked, runE_none ll_asked, in_into, runE_none ll_into, in_through, runE_none ll_through, in_ends, runE_none ll_ends, in_Left, runE_none ll_Left, in_New, runE_none ll_New, in_same, runE_none ll_same, purify, unownT, AV.hf]
  rcases hA with h | ⟨hA, hmu⟩
  · exact absurd h hfin
  have hA' := hA
  obtain ⟨hf, hne, hl0, hl8⟩ := hA
  obtain ⟨q, r, hqr⟩ : ∃ q r, w.parts = q :: r := by
    cases h : w.parts with
    | nil => exact absurd h hne
    | cons q r => exact ⟨q, r, rfl⟩
  have ai := asks_ic hW hf hqr
  have fp := fun H => find_px l 5 (fun _ => rfl) u1 w.at_ q (by omega) f1 H
  have n1 : ¬ (1000 : Int) < (n : Int) + 1 := by omega
  have hpl : w.parts.length ≤ 948 := by
    unfold mu at hmu; omega
  have g0 : ∀ (L : List AObj), (H ++ L)[H.length]? = L[0]? := fun L => by rw [List.getElem?_append_right (by omega)]; congr 1; omega
  have s0 : ∀ (L : List AObj) (o : AObj), (H ++ L).set H.length o = H ++ L.set 0 o := fun L o => by rw [List.set_append_right _ _ (by omega)]; congr 2; omega
  cases hfd : findM l w.at_ q with
  | none =>
    simp only [hfd, Option.getD_none, Option.isSome_none, zeroF, Fnd.cells] at fp
    obtain ⟨H2, m1, m2, m3⟩ := miss_ic (hW.app [.cells [.int .i64 0, .int .i64 0, .str (bs [])]]) hf (by omega)
    simp (disch := omega) only [wk, avalE, aactE, evPE, boundE, asNat, bv_seql cellsEq_ii, bv_sneqd cellsEq_ii, readC, allOne, fillL, resE, tupled, ↓reduceIte, Nat.reduceEqDiff, Int.reduceEq, Int.reduceLT, Int.reduceLE, Nat.reduceAdd, Nat.reduceMul, Nat.reduceLT, Nat.reduceLeDiff, reduceCtorEq, E2, E7, E9, ai, fp, n1, g0, s0, kemp, m1, in_none, runE_none ll_none, in_Asks, runE_none ll_Asks, in_Give, runE_none ll_Give, in_Miss, runE_none ll_Miss, in_Done, runE_none ll_Done, in_Copy, runE_none ll_Copy, in_on, runE_none ll_on, in_asked, runE_none ll_asked, in_into, runE_none ll_into, in_through, runE_none ll_through, in_ends, runE_none ll_ends, in_Left, runE_none ll_Left, in_New, runE_none ll_New, in_same, runE_none ll_same]
    refine ih (missM w, n + 1) _ _ _ (by simp [missM_fin, hf]) ⟨m2, .inl (missM_fin w), by simp only [en, ↓reduceIte, Nat.reduceEqDiff, E2], by simp only [en, ↓reduceIte, Nat.reduceEqDiff, E7], by simp only [en, ↓reduceIte, Nat.reduceEqDiff], rfl⟩
  | some f =>
    have ht := findM_few hfew hfd
    simp only [hfd, Option.getD_some, Option.isSome_some] at fp
    obtain ⟨H2, m1, m2, m3⟩ := give_ic (hW.app [.cells f.cells]) hf f (fun _ => by omega) (by omega) ⟨hl0, by omega⟩ hne
    unfold Fnd.cells at fp m1
    simp (disch := omega) only [wk, avalE, aactE, evPE, boundE, asNat, bv_seql cellsEq_ii, bv_sneqd cellsEq_ii, readC, allOne, fillL, resE, tupled, ↓reduceIte, Nat.reduceEqDiff, Int.reduceEq, Int.reduceLT, Int.reduceLE, Nat.reduceAdd, Nat.reduceMul, Nat.reduceLT, Nat.reduceLeDiff, reduceCtorEq, E2, E7, E9, ai, fp, n1, g0, s0, kemp, m1, in_none, runE_none ll_none, in_Asks, runE_none ll_Asks, in_Give, runE_none ll_Give, in_Miss, runE_none ll_Miss, in_Done, runE_none ll_Done, in_Copy, runE_none ll_Copy, in_on, runE_none ll_on, in_asked, runE_none ll_asked, in_into, runE_none ll_into, in_through, runE_none ll_through, in_ends, runE_none ll_ends, in_Left, runE_none ll_Left, in_New, runE_none ll_New, in_same, runE_none ll_same]
    have st := giveM_step w hA' f ht
    refine ih (giveM w f, n + 1) _ _ _ ?_ ⟨m2, ?_, by simp only [en, ↓reduceIte, Nat.reduceEqDiff, E2], by simp only [en, ↓reduceIte, Nat.reduceEqDiff, E7], by simp only [en, ↓reduceIte, Nat.reduceEqDiff], rfl⟩
    · dsimp only
      rw [if_neg hfin]
      rcases st with h | ⟨_, h⟩
      · rw [if_pos h]; omega
      · split <;> omega
    · rcases st with h | ⟨h1, h2⟩
      · exact .inl h
      · exact .inr ⟨h1, by dsimp only; omega⟩
end Go.Proofs.YtmogflndepihnaaDoor
