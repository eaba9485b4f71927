/- THE LAW NamesJoins COMES TO true. No condition but those stated. -/
import Derived.Test.YtmogflndepihnaaDoorK9
set_option linter.unusedSimpArgs false
set_option linter.unusedVariables false
set_option linter.unusedSectionVars false
namespace Go.Proofs.YtmogflndepihnaaDoor
open Go Go.Am Go.Rec Go.Nam
set_option maxHeartbeats 4000000
set_option maxRecDepth 10000
theorem plainM_mem {l : List UInt8} (h : plainM l = true) : 47 ∉ l ∧ 0 ∉ l := by
  unfold plainM at h
  rw [List.all_eq_true] at h
  constructor
  · intro hm
    have := h _ hm
    simp at this
  · intro hm
    have := h _ hm
    simp at this
theorem partE_fine {p : List UInt8} (h : partE p = 0) : p ≠ [] ∧ 47 ∉ p ∧ 0 ∉ p ∧ p.length ≤ 120 := by
  unfold partE at h
  split at h
  · rename_i hd
    unfold dotsM at hd
    rw [bs_toList] at hd
    simp only [Bool.or_eq_true, beq_iff_eq] at hd
    rcases hd with rfl | rfl <;> decide
  · unfold nameM at h
    rw [bs_toList, bs_data, bs_size] at h
    split at h
    · cases h
    · rename_i hc
      split at h
      · cases h
      · rename_i hl
        simp only [not_or, beq_iff_eq] at hc
        obtain ⟨c1, c2, c3⟩ := hc
        have c3' : plainM p = true := by cases hp : plainM p with
          | true => rfl
          | false => exact absurd hp c3
        obtain ⟨m1, m2⟩ := plainM_mem c3'
        exact ⟨c1, m1, m2, by omega⟩
theorem firstE_zero : ∀ {ps : List (List UInt8)}, firstE ps = 0 → ∀ p ∈ ps, partE p = 0
  | [], _, p, hp => by simp at hp
  | q :: r, h, p, hp => by
    rw [firstE] at h
    split at h
    · rename_i hq
      rcases List.mem_cons.1 hp with rfl | hp
      · exact hq
      · exact firstE_zero h p hp
    · rename_i hq
      exact absurd h hq
theorem fewS_mem : ∀ {xs : List (List UInt8)}, fewS xs ≤ 3000 → (∀ x ∈ xs, x.length ≤ 3000) ∧ (joinS xs).length ≤ 3000 + xs.length
  | [], _ => ⟨by simp, by simp [joinS]⟩
  | x :: r, h => by
    simp only [fewS, List.map_cons, List.sum_cons] at h
    have hx : x.length ≤ 3000 := by omega
    obtain ⟨k1, k2⟩ := fewS_mem (xs := r) (by unfold fewS; omega)
    have k3 : (joinS r).length = sumP r := joinS_len r
    have hS : ∀ ys : List (List UInt8), (∀ y ∈ ys, y.length ≤ 3000) → sumP ys = fewS ys + ys.length := by
      intro ys
      induction ys with
      | nil => intro _; rfl
      | cons y t ih =>
        intro hy
        have := ih (fun z hz => hy z (List.mem_cons_of_mem _ hz))
        have := hy y List.mem_cons_self
        simp only [sumP, fewS, List.map_cons, List.sum_cons, List.length_cons] at *
        omega
    refine ⟨fun y hy => ?_, ?_⟩
    · rcases List.mem_cons.1 hy with rfl | hy
      · exact hx
      · exact k1 y hy
    · rw [joinS_len, hS (x :: r) (fun y hy => by
        rcases List.mem_cons.1 hy with rfl | hy
        · exact hx
        · exact k1 y hy)]
      have : fewS (x :: r) ≤ 3000 := by simp only [fewS, List.map_cons, List.sum_cons]; omega
      omega
theorem namesJoins_pc {x : AV} (h : OkS (.slice [.str]) x) : (cbL tab).pc 5 [x] = some (.plain (.bool true)) := by
  obtain ⟨ps, tk, rfl, htk, hl, hxl⟩ := ok_strS h
  obtain ⟨u1, e1, f1⟩ := lend_sl 1 ps.length (encs strA ps) tk
  refine pc_wp (fi := c5) rfl ?_ (by simp [c5]) (by decide) ?_
  · simp only [pcOn, List.map_cons, List.map_nil, hfL, hf_lend_sl, hf_lend_int, hf_lend_bool, hf_lend_str, hfL_append, Bool.and_self, Bool.and_true, Bool.true_and, c5, hf_strA]
  unfold c5
  rw [List.map_cons, List.map_nil, e1]
  have fw := fun H => few_px ps u1 hl H
  cases hfm : fewM ps with
  | false =>
    rw [hfm] at fw
    simp (disch := omega) only [wk, avalE, aactE, evPE, boundE, asNat, bv_seql cellsEq_ii, bv_sneqd cellsEq_ii, readC, allOne, fillL, resE, tupled, ↓reduceIte, Nat.reduceEqDiff, Int.reduceEq, Int.reduceLT, Int.reduceLE, Nat.reduceAdd, Nat.reduceMul, Nat.reduceLT, Nat.reduceLeDiff, reduceCtorEq, fw, works_px, purify, unownT, AV.hf]
  | true =>
    rw [hfm] at fw
    unfold fewM at hfm
    simp only [Bool.and_eq_true, decide_eq_true_eq] at hfm
    obtain ⟨g1, g2⟩ := hfm
    rw [List.take_of_length_le (by omega)] at g2
    obtain ⟨k1, k2⟩ := fewS_mem g2
    have j1 := fun H => join_px ps u1 (by omega) (by omega) H
    have j2 := fun H => rjoin_px ps u1 (fun p hp => by have := k1 p hp; omega) (by omega) (by omega) H
    unfold joinV at j1 j2
    by_cases hf : firstE ps = 0
    case neg =>
      rw [if_neg hf] at j1 j2
      unfold eS at j1 j2
      simp (disch := omega) only [wk, avalE, aactE, evPE, boundE, asNat, bv_seql cellsEq_ii, bv_sneqd cellsEq_ii, readC, allOne, fillL, resE, tupled, ↓reduceIte, Nat.reduceEqDiff, Int.reduceEq, Int.reduceLT, Int.reduceLE, Nat.reduceAdd, Nat.reduceMul, Nat.reduceLT, Nat.reduceLeDiff, reduceCtorEq, fw, j1, j2, strne', num_px, hf, works_px, purify, unownT, AV.hf]
    simp only [hf, if_true] at j1 j2
    by_cases hlg : 1000 < (joinM ps).length
    · rw [if_pos hlg] at j1 j2
      unfold eS at j1 j2
      have h3 : ¬ (3 : Int) = 0 := by decide
      simp (disch := omega) only [wk, avalE, aactE, evPE, boundE, asNat, bv_seql cellsEq_ii, bv_sneqd cellsEq_ii, readC, allOne, fillL, resE, tupled, ↓reduceIte, Nat.reduceEqDiff, Int.reduceEq, Int.reduceLT, Int.reduceLE, Nat.reduceAdd, Nat.reduceMul, Nat.reduceLT, Nat.reduceLeDiff, reduceCtorEq, fw, j1, j2, strne', num_px, h3, works_px, purify, unownT, AV.hf]
    · rw [if_neg hlg] at j1 j2
      have fine := firstE_zero hf
      obtain ⟨s1, s2⟩ := parts_short (ps := ps) (fun p hp => ⟨(partE_fine (fine p hp)).1, (partE_fine (fine p hp)).2.1⟩) (fun p hp => ⟨(partE_fine (fine p hp)).2.2.1, (partE_fine (fine p hp)).2.2.2⟩) (by omega)
      have hcut : cutP (joinM ps) = ps := cutP_join (fun p hp => ⟨(partE_fine (fine p hp)).1, (partE_fine (fine p hp)).2.1⟩)
      have pp := fun H => parts_px (joinM ps) (by omega) H
      unfold partsV rowV at pp
      rw [s1, hcut] at pp
      simp only [if_true] at pp
      have sm := fun H => same_px ps ps 1 1 .ro u1 (by omega) (by omega) (fun _ => rfl) (fun _ => rfl) H
      rw [decide_eq_true rfl] at sm
      simp (disch := omega) only [wk, avalE, aactE, evPE, boundE, asNat, bv_seql cellsEq_ii, bv_sneqd cellsEq_ii, readC, allOne, fillL, resE, tupled, ↓reduceIte, Nat.reduceEqDiff, Int.reduceEq, Int.reduceLT, Int.reduceLE, Nat.reduceAdd, Nat.reduceMul, Nat.reduceLT, Nat.reduceLeDiff, reduceCtorEq, fw, j1, j2, strne', num_px, pp, sm, works_px, purify, unownT, AV.hf]
end Go.Proofs.YtmogflndepihnaaDoor
