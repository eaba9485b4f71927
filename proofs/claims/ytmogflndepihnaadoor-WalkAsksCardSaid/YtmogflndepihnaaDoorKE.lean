/- THE WALK OF Each, FOR ANY CONSUMER. No condition but those stated. -/
import Derived.Test.YtmogflndepihnaaDoorK5
import Derived.Test.YtmogflndepihnaaDoorWM
set_option linter.unusedSimpArgs false
set_option linter.unusedVariables false
set_option linter.unusedSectionVars false
namespace Go.Proofs.YtmogflndepihnaaDoor
open Go Go.Am Go.Rec Go.Nam
set_option maxHeartbeats 4000000
set_option maxRecDepth 10000
theorem set_ne {H : Heap} {i j : Nat} {o : AObj} (h : i ≠ j) : (H.set i o)[j]? = H[j]? := List.getElem?_set_ne h
theorem set_eq {H : Heap} {i : Nat} {o q : AObj} (h : H[i]? = some q) : (H.set i o)[i]? = some o := by
  rw [List.getElem?_set_self (List.getElem?_eq_some_iff.1 h).1]
theorem each_ic (l : List UInt8) (hn : l.length ≤ 5000) (H : Heap) : pcx (cbL tab) 21 [.str (bs l)] H = none ∧
    (cbL tab).ic 21 [.str (bs l)] H = some (.ret (.fn 61 [.ptr H.length 0]), H ++ [.cells [rowV l]]) := by
  refine ⟨pcx_none rfl (pc_none (fi := c21) rfl rfl), ?_⟩
  have : ∃ o H', (cbL tab).ic 21 [.str (bs l)] H = some (o, H') ∧ o = .ret (.fn 61 [.ptr H.length 0]) ∧ H' = H ++ [.cells [rowV l]] := by
    refine ic_wp (fi := c21) rfl rfl (by simp [c21]) (by decide) ?_
    unfold c21
    have pp := fun H => parts_px l hn H
    unfold partsV at pp
    have g0 : ∀ (L : List AObj), (H ++ L)[H.length]? = L[0]? := fun L => by rw [List.getElem?_append_right (by omega)]; congr 1; omega
    have s0 : ∀ (L : List AObj) (o : AObj), (H ++ L).set H.length o = H ++ L.set 0 o := fun L o => by rw [List.set_append_right _ _ (by omega)]; congr 2; omega
    have o1 : (rowV l).flat = [rowV l] := by unfold rowV; split <;> rfl
    have o2 : (rowV l).one = true := by unfold rowV; split <;> rfl
    simp (disch := omega) only [wk, avalE, aactE, evPE, boundE, asNat, bv_seql cellsEq_ii, bv_sneqd cellsEq_ii, readC, allOne, fillL, resE, tupled, ↓reduceIte, Nat.reduceEqDiff, Int.reduceEq, Int.reduceLT, Int.reduceLE, Nat.reduceAdd, Nat.reduceMul, Nat.reduceLT, Nat.reduceLeDiff, reduceCtorEq, pp, g0, s0, o1, o2]
  obtain ⟨o, H', h, rfl, rfl⟩ := this
  exact h
theorem leach : (cbL tab).lent 21 = false := rfl
/-- What a consumer makes of texts, one by one. -/
def runJ {σ : Type} (stp : σ → Nat → List UInt8 → σ × Bool) : σ → Nat → List (List UInt8) → σ
  | s, _, [] => s
  | s, j, x :: r => if (stp s j x).2 then runJ stp (stp s j x).1 (j + 1) r else (stp s j x).1
theorem rowV_form (l : List UInt8) : ∃ s tk, rowV l = .sl s (partsM l).length (encs strA (partsM l)) tk ∧ (partsM l ≠ [] → s = 1) ∧ tk.hf = true := by
  unfold rowV partsM
  by_cases h : partsE l = 0
  · rw [if_pos h, if_pos h]; exact ⟨1, .ro, rfl, fun _ => rfl, rfl⟩
  · rw [if_neg h, if_neg h]; exact ⟨0, .z, rfl, fun h => absurd rfl h, rfl⟩
theorem partsM_small (l : List UInt8) : (partsM l).length ≤ 1000 := by
  unfold partsM
  split
  · rename_i h
    have h1 := Wlk.cut_half (partsE_ok.1 h).2.1
    have h2 := (partsE_ok.1 h).1
    omega
  · simp
/-- Each, told apart: what holds while it goes on, and where it was left. -/
theorem each1_ic2 {σ : Type} (R : Nat → σ → Heap → Prop) (F : σ → Heap → Prop) (stp : σ → Nat → List UInt8 → σ × Bool) (id a : Nat) (L : List (List UInt8)) (hL : L.length ≤ 10000) (s : Nat) (tk : Tk) (hs : L ≠ [] → s = 1)
    (hstep : ∀ (q : σ) (H : Heap) (j : Nat) (x : List UInt8), L[j]? = some x → R j q H → ∃ H', (cbL tab).yl id [.int .i64 (j : Nat), .str (bs x)] H = some (.ret (.bool (stp q j x).2), H') ∧ if (stp q j x).2 then R (j + 1) (stp q j x).1 H' else F (stp q j x).1 H')
    (q0 : σ) (H : Heap) (hR : R 0 q0 H) (ha : H[a]? = some (.cells [.sl s L.length (encs strA L) tk])) :
    ∃ o H', (cbL tab).ic 61 [.yld id, .ptr a 0] H = some (o, H') ∧ o = .ret (.tup []) ∧ (R L.length (runJ stp q0 0 L) H' ∨ F (runJ stp q0 0 L) H') := by
  refine ic_wp (fi := c61) rfl (by simp [pcOn, c61, lend, unown, hfL, AV.hf]) (by simp [c61]) (by decide) ?_
  unfold c61
  simp (disch := omega) only [wk, avalE, aactE, evPE, boundE, asNat, bv_seql cellsEq_ii, bv_sneqd cellsEq_ii, readC, allOne, fillL, resE, tupled, ↓reduceIte, Nat.reduceEqDiff, Int.reduceEq, Int.reduceLT, Int.reduceLE, Nat.reduceAdd, Nat.reduceMul, Nat.reduceLT, Nat.reduceLeDiff, reduceCtorEq, ha]
  refine loop_ind (fun (x : List (List UInt8) × List (List UInt8) × σ) E df H => L = x.1 ++ x.2.1 ∧ runJ stp q0 0 L = runJ stp x.2.2 x.1.length x.2.1 ∧ E 0 = .yld id ∧ E 5 = .sl s L.length (encs strA L) tk ∧ E 6 = .int .i64 (L.length : Nat) ∧ E 7 = .int .i64 (x.1.length : Nat) ∧ df = [] ∧ R x.1.length x.2.2 H)
    (fun x => x.2.1.length) ([], L, q0) (by decide) (.inl rfl) ⟨rfl, rfl, rfl, rfl, rfl, rfl, rfl, hR⟩ ?_
  intro ⟨pre, suf, q⟩ F0 df H1 ih hP
  obtain ⟨a1, a2, E0, E5, E6, E7, hdf, hR1⟩ := hP
  dsimp only at a1 a2 E7 hR1
  subst hdf
  have la : L.length = pre.length + suf.length := by rw [a1, List.length_append]
  cases suf with
  | nil =>
    have n1 : ¬ (pre.length : Int) < (L.length : Int) := by simp at la; omega
    have lp : pre.length = L.length := by simp at la; omega
    rw [runJ] at a2
    simp (disch := omega) only [wk, avalE, aactE, evPE, boundE, asNat, bv_seql cellsEq_ii, bv_sneqd cellsEq_ii, readC, allOne, fillL, resE, tupled, ↓reduceIte, Nat.reduceEqDiff, Int.reduceEq, Int.reduceLT, Int.reduceLE, Nat.reduceAdd, Nat.reduceMul, Nat.reduceLT, Nat.reduceLeDiff, reduceCtorEq, E0, E5, E6, E7, n1]
    rw [a2, ← lp]
    exact .inl hR1
  | cons x r =>
    have hs1 := hs (by rw [a1]; simp)
    subst hs1
    simp only [List.length_cons] at la
    have d1 : List.drop pre.length (encs strA L) = .str (bs x) :: encs strA r := by
      have := drop_pre (f := strA) pre (x :: r)
      rw [Nat.mul_one] at this
      rw [a1, this]; rfl
    have n1 : (pre.length : Int) < (L.length : Int) := by omega
    obtain ⟨H2, y1, y2⟩ := hstep q H1 pre.length x (by rw [a1, List.getElem?_append_right (Nat.le_refl _), Nat.sub_self]; rfl) hR1
    rw [runJ] at a2
    cases hb : (stp q pre.length x).2 with
    | true =>
      rw [hb] at y1 y2 a2
      simp only [if_true] at a2 y2
      simp (disch := omega) only [wk, avalE, aactE, evPE, boundE, asNat, bv_seql cellsEq_ii, bv_sneqd cellsEq_ii, readC, allOne, fillL, resE, tupled, ↓reduceIte, Nat.reduceEqDiff, Int.reduceEq, Int.reduceLT, Int.reduceLE, Nat.reduceAdd, Nat.reduceMul, Nat.reduceLT, Nat.reduceLeDiff, reduceCtorEq, E0, E5, E6, E7, n1, d1, y1, Bool.not_true]
      refine ih (pre ++ [x], r, (stp q pre.length x).1) _ _ _ (by simp) ?_
      exact ⟨by simp [a1], by dsimp only; rw [a2, List.length_append]; rfl, by simp only [en, ↓reduceIte, Nat.reduceEqDiff, E0], by simp only [en, ↓reduceIte, Nat.reduceEqDiff, E5], by simp only [en, ↓reduceIte, Nat.reduceEqDiff, E6], by simp only [en, ↓reduceIte, Nat.reduceEqDiff], rfl, by dsimp only; rw [List.length_append]; exact y2⟩
    | false =>
      rw [hb] at y1 y2 a2
      simp only [Bool.false_eq_true, if_false] at a2 y2
      simp (disch := omega) only [wk, avalE, aactE, evPE, boundE, asNat, bv_seql cellsEq_ii, bv_sneqd cellsEq_ii, readC, allOne, fillL, resE, tupled, ↓reduceIte, Nat.reduceEqDiff, Int.reduceEq, Int.reduceLT, Int.reduceLE, Nat.reduceAdd, Nat.reduceMul, Nat.reduceLT, Nat.reduceLeDiff, reduceCtorEq, E0, E5, E6, E7, n1, d1, y1, Bool.not_false]
      rw [a2]
      exact .inr y2
end Go.Proofs.YtmogflndepihnaaDoor
