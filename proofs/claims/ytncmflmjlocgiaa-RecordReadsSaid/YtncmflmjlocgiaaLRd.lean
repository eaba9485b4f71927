/- THE LAW RecordReads COMES TO true. No condition but those stated. -/
import Derived.Test.YtncmflmjlocgiaaLWo
set_option linter.unusedSimpArgs false
set_option linter.unusedVariables false
set_option linter.unusedSectionVars false
namespace Go.Proofs.Ytncmflmjlocgiaa
open Go Go.Am Go.Rec
set_option maxHeartbeats 2000000
set_option maxRecDepth 10000
/-- What a slice of words is. -/
theorem ok_words {v : AV} (h : OkS (.slice [.int .u64]) v) : ∃ (xs : List Int) (tk : Tk), v = .sl 1 xs.length (encs u64A xs) tk ∧ (xs.length : Int) ≤ 9223372036854775807 ∧ ∀ x ∈ xs, 0 ≤ x ∧ x < 18446744073709551616 := by
  cases h with
  | slnil _ => exact ⟨[], .z, rfl, by decide, fun x hx => by simp at hx⟩
  | sl _ rows hm hl hr =>
    have : ∀ rows : List (List AV), (∀ r ∈ rows, r.length = 1) → (∀ r ∈ rows, ∀ (i : Nat) (s : Sh) (v : AV), [Sh.int .u64][i]? = some s → r[i]? = some v → OkS s v) →
        ∃ xs : List Int, rows.flatten = encs u64A xs ∧ xs.length = rows.length ∧ ∀ x ∈ xs, 0 ≤ x ∧ x < 18446744073709551616 := by
      intro rows
      induction rows with
      | nil => intro _ _; exact ⟨[], rfl, rfl, fun x hx => by simp at hx⟩
      | cons r rows ih =>
        intro h1 h2
        obtain ⟨xs, k1, k2, k3⟩ := ih (fun r hr => h1 r (List.mem_cons_of_mem _ hr)) (fun r hr => h2 r (List.mem_cons_of_mem _ hr))
        have hr1 := h1 r (List.mem_cons_self ..)
        match r, hr1 with
        | [v], _ =>
          have := h2 [v] (List.mem_cons_self ..) 0 _ v rfl rfl
          cases this with
          | int _ n b1 b2 =>
            have b1 : 0 ≤ n := b1
            have b2 : n ≤ 18446744073709551615 := b2
            refine ⟨n :: xs, by rw [List.flatten_cons, k1, encs_cons]; rfl, by simp [k2], fun x hx => ?_⟩
            rcases List.mem_cons.1 hx with rfl | hx
            · exact ⟨b1, by omega⟩
            · exact k3 x hx
    obtain ⟨xs, k1, k2, k3⟩ := this rows hl hr
    exact ⟨xs, .ro, by rw [k1, k2]; rfl, by rw [k2]; omega, k3⟩
theorem app77a (xs : List Int) (u1 : Tk) (hn : xs.length ≤ 40) (h0 : xs ≠ []) : appV 1 8 (.sl 1 0 [] .e) (.sl 1 xs.length (encs u64A xs) u1) [] = some (.val (.sl 1 xs.length (encs u64A xs) (.own 0)), [.tok 1]) := by
  have hp : xs.length ≠ 0 := fun h => h0 (List.length_eq_zero_iff.1 h)
  have ht : (encs u64A xs).take xs.length = encs u64A xs := List.take_of_length_le (by rw [lenU]; omega)
  simp [appV, hp, ht, one_u64A, lenU]
  omega
theorem app77b (xs : List Int) (hn : xs.length ≤ 40) : appV 1 8 (.sl 1 xs.length (encs u64A xs) (.own 0)) (.sl 1 1 [.int .u64 77] .ro) [.tok 1] = some (.val (.sl 1 (xs.length + 1) (encs u64A xs ++ [.int .u64 77]) (.own 1)), [.dead, .tok 1]) := by
  have g1 : (xs.length + 1) * 8 ≤ 70368744177664 := by omega
  have g2 : xs.length + 1 ≤ 70368744177664 := by omega
  simp [appV, g1, g2, allOne, AV.one]
theorem recordReads_pc {v : AV} (h : OkS (.slice [.int .u64]) v) : (cbL tab).pc 4 [v] = some (.plain (.bool true)) := by
  obtain ⟨xs, tk, rfl, hn, hw⟩ := ok_words h
  obtain ⟨u1, e1, f1⟩ := lend_sl 1 xs.length (encs u64A xs) tk
  refine pc_wp (fi := c4) rfl ?_ (by simp [c4]) (by decide) ?_
  · simp only [pcOn, List.map_cons, List.map_nil, hfL, hf_lend_sl, hf_lend_int, hf_lend_bool, hf_lend_str, hfL_append, Bool.and_self, Bool.and_true, Bool.true_and, c4, hf_u64A]
  unfold c4
  rw [List.map_cons, List.map_nil, e1]
  by_cases h40 : 40 < xs.length
  · have h40' : (40 : Int) < xs.length := by omega
    simp (disch := omega) only [wk1, wk2, wk3, wk4, wk5, wk6, avalE, aactE, evPE, boundE, asNat, Nat.zero_mul, Int.tdiv_eq_ediv_of_nonneg, Int.tmod_eq_emod_of_nonneg, List.length_append, Nat.mul_one, bv_seql cellsEq_ii, bv_sneqd cellsEq_ii, Bool.not_false, Bool.not_true, decide_eq_true_eq, Bool.not_eq_true, eq_self, ne_eq, and_true, true_and, and_self, not_true_eq_false, not_false_eq_true, if_true, if_false, decide_true, decide_false, Int.toNat_natCast, Int.natCast_nonneg, List.drop_zero, List.take_zero, List.take_succ_cons, List.drop_succ_cons, readC, allOne, Bool.and_self, Bool.and_true, Bool.true_and, fillL, beq_self_eq_true, Nat.one_mul, List.drop_nil, resE, tupled, List.map_nil, List.map_cons, Option.map_some, ↓reduceIte, Nat.reduceEqDiff, Int.reduceEq, Int.reduceLT, Int.reduceLE, Nat.reduceAdd, Nat.reduceMul, Nat.reduceLT, Nat.reduceLeDiff, reduceCtorEq, List.length_nil, List.length_cons, Nat.add_zero, Nat.sub_zero, List.nil_append, List.cons_append, List.getElem?_cons_zero, List.getElem?_cons_succ, List.set_cons_zero, List.set_cons_succ, h40', works_px, purify, unownT, AV.hf]
  have h40' : ¬ (40 : Int) < xs.length := by omega
  have oo := fun H => rof_px xs [.int .u64 77] 1 .ro H _ (lendK_sl _ _ _ _ _ _) (by omega) (fun _ => rfl) rfl rfl hw
  have ro := fun H => rfof_px xs [] 1 u1 H (by omega) (fun _ => rfl) rfl hw
  have sm := fun H => same_px xs xs [.int .u64 77] [] 1 1 .ro u1 H (by omega) (by omega) (fun _ => rfl) (fun _ => rfl) rfl rfl
  have oR : ofR xs = if isM xs then ((headM xs, textM xs), 0) else ((0, emptyS), 250) := rfl
  simp only [List.append_nil, resO, recV, decide_true] at oo ro sm
  have d77 : List.drop xs.length (encs u64A xs ++ [.int .u64 77]) = [.int .u64 77] := by
    rw [List.drop_append_of_le_length (by rw [lenU]; exact Nat.le_refl _), List.drop_of_length_le (by rw [lenU]; exact Nat.le_refl _)]; rfl
  have l77 : (encs u64A xs ++ [AV.int .u64 77]).length = xs.length + 1 := by rw [List.length_append, lenU]; rfl
  have ne1 : ∀ n : Nat, (n + 1 = n) = False := fun n => by simp
  by_cases hM : isM xs
  · have hk := hM.2.2.1
    have h16 := hM.1
    have wp := fun H => words_px (headM xs) (textM xs) H
    have wR : wordsR (headM xs) (textM xs) = (xs, 0) := by rw [wordsR, if_pos hk, hM.2.2.2]
    have sv : slvR 1 u64A xs = .sl 1 16 (encs u64A xs) .ro := by
      have := slvR_words hk
      rwa [hM.2.2.2] at this
    have sm2 := fun H => same_px xs xs [] [] 1 1 .ro u1 H (by omega) (by omega) (fun _ => rfl) (fun _ => rfl) rfl rfl
    simp only [List.append_nil, decide_true] at sm2
    simp only [recV, wR, resW, sv] at wp
    have hne : xs ≠ [] := by intro e; rw [e] at h16; cases h16
    have ap1 := app77a xs u1 (by omega) hne
    have ap2 := app77b xs (by omega)
    rw [h16] at ap1 ap2 oo ro sm sm2 d77 l77 h40'
    have f16 : ¬ (40 : Int) < 16 := by decide
    have i17 : ((16 : Nat) : Int) + 1 = 17 := rfl
    have t17 : (17 : Int).toNat = 17 := rfl
    have t16 : (16 : Int).toNat = 16 := rfl
    have c16 : ((16 : Nat) : Int) = 16 := rfl
    simp (disch := omega) only [wk1, wk2, wk3, wk4, wk5, wk6, avalE, aactE, evPE, boundE, asNat, Nat.zero_mul, Int.tdiv_eq_ediv_of_nonneg, Int.tmod_eq_emod_of_nonneg, List.length_append, Nat.mul_one, bv_seql cellsEq_ii, bv_sneqd cellsEq_ii, Bool.not_false, Bool.not_true, decide_eq_true_eq, Bool.not_eq_true, eq_self, ne_eq, and_true, true_and, and_self, not_true_eq_false, not_false_eq_true, if_true, if_false, decide_true, decide_false, Int.toNat_natCast, Int.natCast_nonneg, List.drop_zero, List.take_zero, List.take_succ_cons, List.drop_succ_cons, readC, allOne, Bool.and_self, Bool.and_true, Bool.true_and, fillL, beq_self_eq_true, Nat.one_mul, List.drop_nil, resE, tupled, List.map_nil, List.map_cons, Option.map_some, ↓reduceIte, Nat.reduceEqDiff, Int.reduceEq, Int.reduceLT, Int.reduceLE, Nat.reduceAdd, Nat.reduceMul, Nat.reduceLT, Nat.reduceLeDiff, reduceCtorEq, List.length_nil, List.length_cons, Nat.add_zero, Nat.sub_zero, List.nil_append, List.cons_append, List.getElem?_cons_zero, List.getElem?_cons_succ, List.set_cons_zero, List.set_cons_succ, h16, h40', f16, ap1, ap2, l77, oo, ro, sm, sm2, oR, hM, wp, bv_sneqd ceq_rec, num_px, works_px, d77, c16, i17, t17, t16, purify, unownT, AV.hf]
  · by_cases hne : xs = []
    · subst hne
      have ap1 : appV 1 8 (.sl 1 0 [] .e) (.sl 1 0 [] u1) [] = some (.val (.sl 1 0 [] .e), []) := rfl
      have ap2 : appV 1 8 (.sl 1 0 [] .e) (.sl 1 1 [.int .u64 77] .ro) [] = some (.val (.sl 1 1 [.int .u64 77] (.own 0)), [.tok 1]) := rfl
      simp only [encs_nil, List.nil_append, List.length_nil] at oo ro sm
      have i1 : (1 : Int).toNat = 1 := rfl
      have i0 : (0 : Int).toNat = 0 := rfl
      have c0 : ((0 : Nat) : Int) = 0 := rfl
      have ca : (0 : Int) + 1 = 1 := rfl
      have f40 : ¬ (40 : Int) < 0 := by decide
      have l1 : [AV.int .u64 77].length = 1 := rfl
      simp (disch := omega) only [wk1, wk2, wk3, wk4, wk5, wk6, avalE, aactE, evPE, boundE, asNat, Nat.zero_mul, Int.tdiv_eq_ediv_of_nonneg, Int.tmod_eq_emod_of_nonneg, List.length_append, Nat.mul_one, bv_seql cellsEq_ii, bv_sneqd cellsEq_ii, Bool.not_false, Bool.not_true, decide_eq_true_eq, Bool.not_eq_true, eq_self, ne_eq, and_true, true_and, and_self, not_true_eq_false, not_false_eq_true, if_true, if_false, decide_true, decide_false, Int.toNat_natCast, Int.natCast_nonneg, List.drop_zero, List.take_zero, List.take_succ_cons, List.drop_succ_cons, readC, allOne, Bool.and_self, Bool.and_true, Bool.true_and, fillL, beq_self_eq_true, Nat.one_mul, List.drop_nil, resE, tupled, List.map_nil, List.map_cons, Option.map_some, ↓reduceIte, Nat.reduceEqDiff, Int.reduceEq, Int.reduceLT, Int.reduceLE, Nat.reduceAdd, Nat.reduceMul, Nat.reduceLT, Nat.reduceLeDiff, reduceCtorEq, List.length_nil, List.length_cons, Nat.add_zero, Nat.sub_zero, List.nil_append, List.cons_append, List.getElem?_cons_zero, List.getElem?_cons_succ, List.set_cons_zero, List.set_cons_succ, f40, ap1, ap2, oo, ro, sm, oR, hM, bv_sneqd ceq_rec, num_px, works_px, c0, ca, i0, i1, l1, purify, unownT, AV.hf]
    · have ap1 := app77a xs u1 (by omega) hne
      have ap2 := app77b xs (by omega)
      simp (disch := omega) only [wk1, wk2, wk3, wk4, wk5, wk6, avalE, aactE, evPE, boundE, asNat, Nat.zero_mul, Int.tdiv_eq_ediv_of_nonneg, Int.tmod_eq_emod_of_nonneg, List.length_append, Nat.mul_one, bv_seql cellsEq_ii, bv_sneqd cellsEq_ii, Bool.not_false, Bool.not_true, decide_eq_true_eq, Bool.not_eq_true, eq_self, ne_eq, and_true, true_and, and_self, not_true_eq_false, not_false_eq_true, if_true, if_false, decide_true, decide_false, Int.toNat_natCast, Int.natCast_nonneg, List.drop_zero, List.take_zero, List.take_succ_cons, List.drop_succ_cons, readC, allOne, Bool.and_self, Bool.and_true, Bool.true_and, fillL, beq_self_eq_true, Nat.one_mul, List.drop_nil, resE, tupled, List.map_nil, List.map_cons, Option.map_some, ↓reduceIte, Nat.reduceEqDiff, Int.reduceEq, Int.reduceLT, Int.reduceLE, Nat.reduceAdd, Nat.reduceMul, Nat.reduceLT, Nat.reduceLeDiff, reduceCtorEq, List.length_nil, List.length_cons, Nat.add_zero, Nat.sub_zero, List.nil_append, List.cons_append, List.getElem?_cons_zero, List.getElem?_cons_succ, List.set_cons_zero, List.set_cons_succ, h40', ap1, ap2, l77, oo, ro, sm, oR, hM, bv_sneqd ceq_rec, num_px, works_px, d77, purify, unownT, AV.hf]
end Go.Proofs.Ytncmflmjlocgiaa
