/- THE WALKS OF slices.DeleteFunc AND Parts. No condition but those stated. -/
import Derived.Test.YtmogflndepihnaaDoorK3
set_option linter.unusedSimpArgs false
set_option linter.unusedVariables false
set_option linter.unusedSectionVars false
namespace Go.Proofs.YtmogflndepihnaaDoor
open Go Go.Am Go.Rec Go.Nam
set_option maxHeartbeats 4000000
set_option maxRecDepth 10000
def keepP (a : List (List UInt8)) : List (List UInt8) := a.filter fun x => !x.isEmpty
/-- What is left of a row in memory. -/
def rowK (id : Nat) (l : List (List UInt8)) : AV := if l.length = 0 then .sl 1 0 [] .ro else .msl 1 id 0 l.length
theorem deleteF_ic (a : List (List UInt8)) (ha : a.length ≤ 9000) (id : Nat) (H : Heap) (hid : H[id]? = some (.cells (encs strA ([] :: a)))) :
    (cbL tab).ic 56 [.msl 1 id 0 (a.length + 1), .fn 58 []] H = some (.ret (rowK id (keepP a)), H.set id (.cells (encs strA (keepP a ++ List.replicate (a.length + 1 - (keepP a).length) [])))) := by
  have key : ∃ o H', (cbL tab).ic 56 [.msl 1 id 0 (a.length + 1), .fn 58 []] H = some (o, H') ∧ o = .ret (rowK id (keepP a)) ∧ H' = H.set id (.cells (encs strA (keepP a ++ List.replicate (a.length + 1 - (keepP a).length) []))) := by
    refine ic_wp (fi := c56) rfl rfl (by simp [c56]) (by decide) ?_
    unfold c56
    have hlt : id < H.length := (List.getElem?_eq_some_iff.1 hid).1
    have ix : pcx (cbL tab) 82 [.msl 1 id 0 (a.length + 1), .fn 58 []] H = some (.plain (.int .i64 0)) := by
      refine pcx_L rfl ?_ (indexF_pc 58 (·.isEmpty) emptyF_px ([] :: a) (by simp; omega) 1 (fun _ => rfl) .ro rfl) rfl
      have h2 := lend_mslS (l := [] :: a) (rest := []) (H := H) (id := id) (by rw [List.append_nil]; exact hid)
      rw [List.length_cons] at h2
      rw [List.map_cons, List.map_cons, List.map_nil, h2]
      rfl
    have m1 : ¬ (0 : Int) = -((0 : Int) + 1) := by decide
    have sg : ∀ A, (H.set id A)[id]? = some A := fun A => List.getElem?_set_self hlt
    simp (disch := omega) only [wk, avalE, aactE, evPE, boundE, asNat, bv_seql cellsEq_ii, bv_sneqd cellsEq_ii, readC, allOne, fillL, resE, tupled, ↓reduceIte, Nat.reduceEqDiff, Int.reduceEq, Int.reduceLT, Int.reduceLE, Nat.reduceAdd, Nat.reduceMul, Nat.reduceLT, Nat.reduceLeDiff, reduceCtorEq, ix, m1]
    refine loop_ind (fun (x : List (List UInt8) × List (List UInt8)) E df H' => a = x.1 ++ x.2 ∧ E 0 = .msl 1 id 0 (a.length + 1) ∧ E 1 = .fn 58 [] ∧ E 5 = .int .i64 ((keepP x.1).length : Nat) ∧ E 6 = .int .i64 ((x.1.length + 1 : Nat) : Int) ∧ df = [] ∧
        H' = H.set id (.cells (encs strA (keepP x.1 ++ ([] :: a).drop (keepP x.1).length))))
      (fun x => x.2.length) ([], a) (by decide) (.inl rfl) ⟨rfl, rfl, rfl, rfl, rfl, rfl, ?_⟩ ?_
    · have : (H.set id (.cells (encs strA ([] :: a)))) = H := by
        apply List.ext_getElem?
        intro i
        rw [List.getElem?_set]
        split
        · rename_i h; subst h; exact hid.symm
        · rfl
      exact this.symm
    intro ⟨pre, suf⟩ E df H1 ih hP
    obtain ⟨a1, E0, E1, E5, E6, hdf, hH⟩ := hP
    dsimp only at a1 E5 E6 hH
    subst hdf hH
    have la : a.length = pre.length + suf.length := by rw [a1, List.length_append]
    have hk : (keepP pre).length ≤ pre.length := List.length_filter_le _ _
    have lrow : (keepP pre ++ ([] :: a).drop (keepP pre).length).length = a.length + 1 := by
      rw [List.length_append, List.length_drop, List.length_cons]; omega
    have lenr : (encs strA (keepP pre ++ ([] :: a).drop (keepP pre).length)).length = a.length + 1 := by rw [lenS, lrow]
    cases suf with
    | nil =>
      have hpa : pre = a := by rw [a1, List.append_nil]
      subst hpa
      have n1 : ¬ ((pre.length + 1 : Nat) : Int) < ((pre.length + 1 : Nat) : Int) := by omega
      have klt : (keepP pre).length ≤ pre.length + 1 := by omega
      have kne : ¬ (keepP pre).length = pre.length + 1 := by omega
      have tk : (encs strA (keepP pre ++ ([] :: pre).drop (keepP pre).length)).take (keepP pre).length = encs strA (keepP pre) := by
        rw [encs_append, List.take_append_of_le_length (by rw [lenS]; exact Nat.le_refl _), List.take_of_length_le (by rw [lenS]; exact Nat.le_refl _)]
      have dk : (encs strA (keepP pre ++ ([] :: pre).drop (keepP pre).length)).drop (pre.length + 1) = [] := List.drop_of_length_le (by rw [lenr]; exact Nat.le_refl _)
      have kd : pre.length + 1 - (keepP pre).length ≠ 0 := by omega
      have kd' : (keepP pre).length + (pre.length + 1 - (keepP pre).length) = pre.length + 1 := by omega
      simp (disch := omega) only [wk, avalE, aactE, evPE, boundE, asNat, bv_seql cellsEq_ii, bv_sneqd cellsEq_ii, readC, allOne, fillL, resE, tupled, ↓reduceIte, Nat.reduceEqDiff, Int.reduceEq, Int.reduceLT, Int.reduceLE, Nat.reduceAdd, Nat.reduceMul, Nat.reduceLT, Nat.reduceLeDiff, reduceCtorEq, E0, E1, E5, E6, n1, sg, List.set_set, klt, kne, tk, dk, kd, kd', lenr, repL_str, List.append_nil, Nat.zero_add, emptyF_px]
      refine ⟨?_, by rw [encs_append]⟩
      unfold rowK
      by_cases h : (keepP pre).length = 0
      · rw [if_pos h, if_pos h.symm]
      · rw [if_neg h, if_neg (fun e => h e.symm)]
    | cons x r =>
      have n1 : ((pre.length + 1 : Nat) : Int) < ((a.length + 1 : Nat) : Int) := by rw [la]; simp; omega
      have n0 : (0 : Int) ≤ ((pre.length + 1 : Nat) : Int) := by omega
      have tj : Int.toNat (((pre.length : Nat) : Int) + 1) = pre.length + 1 := by omega
      have gx : (encs strA (keepP pre ++ ([] :: a).drop (keepP pre).length))[pre.length + 1]? = some (.str (bs x)) := by
        rw [encs_mapS, List.getElem?_map, List.getElem?_append_right (by omega), List.getElem?_drop]
        have : (keepP pre).length + (pre.length + 1 - (keepP pre).length) = pre.length + 1 := by omega
        rw [this, List.getElem?_cons_succ, a1, List.getElem?_append_right (Nat.le_refl _), Nat.sub_self]
        rfl
      have ex := fun H => emptyF_px x H
      have ka : ((keepP pre).length : Int) < ((a.length + 1 : Nat) : Int) := by omega
      have ka0 : (0 : Int) ≤ ((keepP pre).length : Int) := by omega
      have kle : (keepP pre).length + 1 ≤ a.length + 1 := by omega
      have su := setS (keepP pre ++ ([] :: a).drop (keepP pre).length) (keepP pre).length x (by rw [lrow]; omega)
      have kk : keepP (pre ++ [x]) = keepP pre ++ keepP [x] := List.filter_append _ _
      cases hx : x.isEmpty with
      | true =>
        rw [hx] at ex
        have kx : keepP [x] = [] := by simp [keepP, hx]
        rw [kx, List.append_nil] at kk
        simp (disch := omega) only [wk, avalE, aactE, evPE, boundE, asNat, bv_seql cellsEq_ii, bv_sneqd cellsEq_ii, readC, allOne, fillL, resE, tupled, ↓reduceIte, Nat.reduceEqDiff, Int.reduceEq, Int.reduceLT, Int.reduceLE, Nat.reduceAdd, Nat.reduceMul, Nat.reduceLT, Nat.reduceLeDiff, reduceCtorEq, E0, E1, E5, E6, n1, n0, tj, gx, ex, sg, List.set_set, lenr, Nat.zero_add]
        refine ih (pre ++ [x], r) _ _ _ (by simp) ?_
        exact ⟨by simp [a1], by simp only [en, ↓reduceIte, Nat.reduceEqDiff, E0], by simp only [en, ↓reduceIte, Nat.reduceEqDiff, E1], by dsimp only; rw [kk]; simp only [en, ↓reduceIte, Nat.reduceEqDiff, E5], by dsimp only; rw [List.length_append]; simp only [en, ↓reduceIte, Nat.reduceEqDiff], rfl, by dsimp only; rw [kk]⟩
      | false =>
        rw [hx] at ex
        have kx : keepP [x] = [x] := by simp [keepP, hx]
        rw [kx] at kk
        have hset : (keepP pre ++ ([] :: a).drop (keepP pre).length).set (keepP pre).length x = keepP (pre ++ [x]) ++ ([] :: a).drop (keepP (pre ++ [x])).length := by
          rw [List.set_append_right _ _ (Nat.le_refl _), Nat.sub_self, kk, List.drop_eq_getElem_cons (by simp; omega), List.set_cons_zero, List.length_append]
          simp
        rw [hset] at su
        simp (disch := omega) only [wk, avalE, aactE, evPE, boundE, asNat, bv_seql cellsEq_ii, bv_sneqd cellsEq_ii, readC, allOne, fillL, resE, tupled, ↓reduceIte, Nat.reduceEqDiff, Int.reduceEq, Int.reduceLT, Int.reduceLE, Nat.reduceAdd, Nat.reduceMul, Nat.reduceLT, Nat.reduceLeDiff, reduceCtorEq, E0, E1, E5, E6, n1, n0, tj, gx, ex, ka, ka0, kle, su, sg, List.set_set, lenr, Nat.zero_add]
        refine ih (pre ++ [x], r) _ _ _ (by simp) ?_
        exact ⟨by simp [a1], by simp only [en, ↓reduceIte, Nat.reduceEqDiff, E0], by simp only [en, ↓reduceIte, Nat.reduceEqDiff, E1], by dsimp only; rw [kk, List.length_append]; simp only [en, ↓reduceIte, Nat.reduceEqDiff], by dsimp only; rw [List.length_append]; simp only [en, ↓reduceIte, Nat.reduceEqDiff], rfl, rfl⟩
  obtain ⟨o, H', h, rfl, rfl⟩ := key
  exact h
end Go.Proofs.YtmogflndepihnaaDoor
