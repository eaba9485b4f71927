/- THE LAW InodeStores COMES TO true. No condition but those stated. -/
import Derived.Test.YtncmflmjlocgiaaLSa
import Derived.Test.YtncmflmjlocgiaaN13
set_option linter.unusedSimpArgs false
set_option linter.unusedVariables false
set_option linter.unusedSectionVars false
namespace Go.Proofs.Ytncmflmjlocgiaa
open Go Go.Am Go.Rec Go.Ino
set_option maxHeartbeats 4000000
set_option maxRecDepth 10000
/-- What a slice of words is. -/
theorem ok_wordsS {v : AV} (h : OkS (.slice [.int .u64]) v) : ∃ (xs : List Int) (tk : Tk), v = .sl 1 xs.length (encs u64A xs) tk ∧ (xs.length : Int) ≤ 9223372036854775807 ∧ ∀ x ∈ xs, 0 ≤ x ∧ x < 18446744073709551616 := by
  cases h with
  | slnil _ => exact ⟨[], .z, rfl, by decide, fun x hx => by simp at hx⟩
  | sl _ rows hm hl hr =>
    have : ∀ rows : List (List AV), (∀ r ∈ rows, r.length = 1) → (∀ r ∈ rows, ∀ (i : Nat) (s : Sh) (v : AV), [Sh.int .u64][i]? = some s → r[i]? = some v → OkS s v) →
        ∃ xs : List Int, rows.flatten = encs u64A xs ∧ xs.length = rows.length ∧ ∀ x ∈ xs, 0 ≤ x ∧ x < 18446744073709551616 := by
      intro rows
      induction rows with
      | nil => intro _ _; exact ⟨[], rfl, rfl, fun x hx => by simp at hx⟩
      | cons r rows ih =>
        intro h1 h2
        obtain ⟨xs, k1, k2, k3⟩ := ih (fun r hr => h1 r (List.mem_cons_of_mem _ hr)) (fun r hr => h2 r (List.mem_cons_of_mem _ hr))
        have hr1 := h1 r (List.mem_cons_self ..)
        match r, hr1 with
        | [v], _ =>
          have := h2 [v] (List.mem_cons_self ..) 0 _ v rfl rfl
          cases this with
          | int _ n b1 b2 =>
            have b1 : 0 ≤ n := b1
            have b2 : n ≤ 18446744073709551615 := b2
            refine ⟨n :: xs, by rw [List.flatten_cons, k1, encs_cons]; rfl, by simp [k2], fun x hx => ?_⟩
            rcases List.mem_cons.1 hx with rfl | hx
            · exact ⟨b1, by omega⟩
            · exact k3 x hx
    obtain ⟨xs, k1, k2, k3⟩ := this rows hl hr
    exact ⟨xs, .ro, by rw [k1, k2]; rfl, by rw [k2]; omega, k3⟩
theorem slvP_form (L : List (Int × Int)) : ∃ s t, slvR 2 putA L = .sl s L.length (encs putA L) t ∧ (L ≠ [] → s = 2) := by
  cases L with
  | nil => exact ⟨0, .z, rfl, fun h => absurd rfl h⟩
  | cons x r => exact ⟨2, .ro, rfl, fun _ => rfl⟩
theorem storesI_len (at' : Int) (v : List Int) (n : Ino) : (storesI at' v n).1.length ≤ 16 := by
  unfold storesI
  split
  · rename_i h
    have := difF_len at' (wordsI n) v 0
    have := wordsI_len h.1
    show (difF at' 0 (wordsI n) v).length ≤ 16
    omega
  · show 0 ≤ 16
    decide
theorem inodeStores_pc {x v : AV} {ys : List AV} (h0 : OkS (.int .i64) x) (h : OkS (.slice [.int .u64]) v) (h' : OkL shI ys) : (cbL tab).pc 12 [x, v, .agg ys] = some (.plain (.bool true)) := by
  obtain ⟨xs, tk, rfl, hn, hw⟩ := ok_wordsS h
  obtain ⟨n, m, e1, hm, _⟩ := okL_ino h'
  cases h0 with
  | int _ at' b1 b2 =>
  rw [e1]
  obtain ⟨u1, e2, f1⟩ := lend_sl 1 xs.length (encs u64A xs) tk
  refine pc_wp (fi := c12) rfl ?_ (by simp [c12]) (by decide) ?_
  · simp only [pcOn, List.map_cons, List.map_nil, hfL, hf_lend_sl, hf_lend_int, hf_lend_bool, hf_lend_str, hfL_append, Bool.and_self, Bool.and_true, Bool.true_and, c12, lend_int, hf_u64A, lend_inoA hm, hf_inoA hm, AV.hf]
  unfold c12
  rw [List.map_cons, List.map_cons, List.map_cons, List.map_nil, e2, lend_inoA hm, lend_int]
  have fa := fun H => few_px n m hm H
  have m1 := hm.one.1
  have m2 := hm.one.2
  simp only [inoA] at fa ⊢
  by_cases h40 : 40 < xs.length
  · have h40' : (40 : Int) < xs.length := by omega
    simp (disch := omega) only [wk, avalE, aactE, evPE, boundE, asNat, bv_seql cellsEq_ii, bv_sneqd cellsEq_ii, readC, allOne, fillL, resE, tupled, ↓reduceIte, Nat.reduceEqDiff, Int.reduceEq, Int.reduceLT, Int.reduceLE, Nat.reduceAdd, Nat.reduceMul, Nat.reduceLT, Nat.reduceLeDiff, reduceCtorEq, m1, m2, h40', works_px, purify, unownT, AV.hf]
  have h40' : ¬ (40 : Int) < xs.length := by omega
  by_cases c1 : n.map.length ≤ 30 ∧ n.target.size ≤ 300
  case neg =>
    have c1' : decide (n.map.length ≤ 30 ∧ n.target.size ≤ 300) = false := decide_eq_false c1
    clear c1
    simp (disch := omega) only [wk, avalE, aactE, evPE, boundE, asNat, bv_seql cellsEq_ii, bv_sneqd cellsEq_ii, readC, allOne, fillL, resE, tupled, ↓reduceIte, Nat.reduceEqDiff, Int.reduceEq, Int.reduceLT, Int.reduceLE, Nat.reduceAdd, Nat.reduceMul, Nat.reduceLT, Nat.reduceLeDiff, reduceCtorEq, m1, m2, h40', fa, c1', works_px, purify, unownT, AV.hf]
  have c1' : decide (n.map.length ≤ 30 ∧ n.target.size ≤ 300) = true := decide_eq_true c1
  by_cases g0 : at' < 0
  · clear c1
    simp (disch := omega) only [wk, avalE, aactE, evPE, boundE, asNat, bv_seql cellsEq_ii, bv_sneqd cellsEq_ii, readC, allOne, fillL, resE, tupled, ↓reduceIte, Nat.reduceEqDiff, Int.reduceEq, Int.reduceLT, Int.reduceLE, Nat.reduceAdd, Nat.reduceMul, Nat.reduceLT, Nat.reduceLeDiff, reduceCtorEq, m1, m2, h40', fa, c1', g0, works_px, purify, unownT, AV.hf]
  by_cases g1 : 1099511627776 < at'
  · clear c1
    simp (disch := omega) only [wk, avalE, aactE, evPE, boundE, asNat, bv_seql cellsEq_ii, bv_sneqd cellsEq_ii, readC, allOne, fillL, resE, tupled, ↓reduceIte, Nat.reduceEqDiff, Int.reduceEq, Int.reduceLT, Int.reduceLE, Nat.reduceAdd, Nat.reduceMul, Nat.reduceLT, Nat.reduceLeDiff, reduceCtorEq, m1, m2, h40', fa, c1', g0, g1, works_px, purify, unownT, AV.hf]
  have r1 := fun H => rstoresI_px at' xs 1 u1 n m hm (by omega) (by omega) H (by omega) (by omega) (fun _ => rfl) (by omega)
  have hL := storesI_len at' xs n
  by_cases hne : xs = []
  · subst hne
    have s1 := fun H => storesI_px at' [] 1 .e n m hm (by omega) H (by omega) (by omega) (fun _ => rfl) (by simp)
    generalize storesI at' [] n = R at s1 r1 hL
    obtain ⟨L, e⟩ := R
    obtain ⟨s, t, k1, k2⟩ := slvP_form L
    simp only [resP, k1, inoA, encs_nil, List.length_nil] at s1 r1
    dsimp only at hL
    have sm := fun H => pcx_N (H := H) rfl (samePuts_pc L L s s t t k2 k2 (by omega))
    have c0 : ((0 : Nat) : Int) = 0 := rfl
    have f40 : ¬ (40 : Int) < 0 := by decide
    clear c1
    simp (disch := omega) only [wk, avalE, aactE, evPE, boundE, asNat, bv_seql cellsEq_ii, bv_sneqd cellsEq_ii, readC, allOne, fillL, resE, tupled, ↓reduceIte, Nat.reduceEqDiff, Int.reduceEq, Int.reduceLT, Int.reduceLE, Nat.reduceAdd, Nat.reduceMul, Nat.reduceLT, Nat.reduceLeDiff, reduceCtorEq, m1, m2, f40, c0, fa, c1', g0, g1, s1, r1, sm, num_px, works_px, purify, unownT, AV.hf]
  have s1 := fun H => storesI_px at' xs 1 .ro n m hm (by omega) H (by omega) (by omega) (fun _ => rfl) (by omega)
  generalize storesI at' xs n = R at s1 r1 hL
  obtain ⟨L, e⟩ := R
  obtain ⟨s, t, k1, k2⟩ := slvP_form L
  simp only [resP, k1, inoA] at s1 r1
  dsimp only at hL
  have sm := fun H => pcx_N (H := H) rfl (samePuts_pc L L s s t t k2 k2 (by omega))
  have q1 : xs.length * 8 ≤ 70368744177664 := by omega
  have q2 : xs.length ≤ 70368744177664 := by omega
  have q3 : ¬ xs.length = 0 := fun h => hne (List.length_eq_zero_iff.1 h)
  have q4 : (encs u64A xs).take xs.length = encs u64A xs := List.take_of_length_le (by rw [lenU]; omega)
  have q5 := lenU xs
  have q6 := one_u64A xs
  clear c1
  simp (disch := omega) only [wk, avalE, aactE, evPE, boundE, asNat, bv_seql cellsEq_ii, bv_sneqd cellsEq_ii, readC, allOne, fillL, resE, tupled, ↓reduceIte, Nat.reduceEqDiff, Int.reduceEq, Int.reduceLT, Int.reduceLE, Nat.reduceAdd, Nat.reduceMul, Nat.reduceLT, Nat.reduceLeDiff, reduceCtorEq, m1, m2, h40', fa, c1', g0, g1, q1, q2, q3, q4, q5, q6, Nat.mul_one, Nat.le_refl, s1, r1, sm, num_px, works_px, purify, unownT, AV.hf]
end Go.Proofs.Ytncmflmjlocgiaa
