/- WHAT THE LAW NodeHolds LEANS ON: lists that are the same, with more behind; which pairs are below one. No condition but those stated. -/
import Derived.Test.YtailfegmnkldoaaLSp
set_option linter.unusedSimpArgs false
set_option linter.unusedVariables false
set_option linter.unusedSectionVars false
namespace Go.Proofs.Ytailfegmnkldoaa
open Go Go.Am Go.Slots Go.Nod
set_option maxHeartbeats 8000000
set_option maxRecDepth 10000
theorem samePairs2_pc (l m : List (Int × Int)) (rs : List AV) (hrs : hfL rs = true) (s1 s2 : Nat) (t1 t2 : Tk) (hz1 : l ≠ [] → s1 = 2) (hz2 : m ≠ [] → s2 = 2) (hl : (l.length : Int) < 9223372036854775807) : (cbL tab).pc 30 [.sl s1 l.length (encs pairA l) t1, .sl s2 m.length (encs pairA m ++ rs) t2] = some (.plain (.bool (decide (l = m)))) := by
  obtain ⟨u1, e1, f1⟩ := lend_sl s1 l.length (encs pairA l) t1
  obtain ⟨u2, e2, f2⟩ := lend_sl s2 m.length (encs pairA m ++ rs) t2
  refine pc_wp (fi := c30) rfl ?_ (by simp [c30]) (by decide) ?_
  · simp only [pcOn, List.map_cons, List.map_nil, hfL, hf_lend_sl, hf_lend_int, hf_lend_bool, hf_lend_str, hfL_append, Bool.and_self, Bool.and_true, Bool.true_and, c30, hf_pairA, hrs]
  unfold c30
  rw [List.map_cons, List.map_cons, List.map_nil, e1, e2]
  by_cases h : (l.length : Int) = m.length
  case neg =>
    have h' : ¬ l = m := fun e => h (by rw [e])
    simp (disch := omega) only [wk, avalE, aactE, evPE, boundE, asNat, bv_seql cellsEq_ii, bv_sneqd cellsEq_ii, readC, allOne, fillL, resE, tupled, ↓reduceIte, Nat.reduceEqDiff, Int.reduceEq, Int.reduceLT, Int.reduceLE, Nat.reduceAdd, Nat.reduceMul, Nat.reduceLT, Nat.reduceLeDiff, reduceCtorEq, h, purify, unownT, lend, unown, AV.hf, h']
  simp (disch := omega) only [wk, avalE, aactE, evPE, boundE, asNat, bv_seql cellsEq_ii, bv_sneqd cellsEq_ii, readC, allOne, fillL, resE, tupled, ↓reduceIte, Nat.reduceEqDiff, Int.reduceEq, Int.reduceLT, Int.reduceLE, Nat.reduceAdd, Nat.reduceMul, Nat.reduceLT, Nat.reduceLeDiff, reduceCtorEq]
  refine loop_ind (fun (x : List (Int × Int) × List (Int × Int) × List (Int × Int)) E df H => l = x.1 ++ x.2.1 ∧ m = x.1 ++ x.2.2 ∧ E 0 = .sl s1 l.length (encs pairA l) u1 ∧ E 1 = .sl s2 m.length (encs pairA m ++ rs) u2 ∧ E 5 = .int .i64 (x.1.length : Nat) ∧ df = [] ∧ H = [])
    (fun x => x.2.1.length) ([], l, m) (by decide) (.inl rfl) ⟨rfl, rfl, rfl, rfl, rfl, rfl, rfl⟩ ?_
  intro ⟨pre, q1, q2⟩ E df H ih hP
  obtain ⟨a1, a2, E0, E1, E5, hdf, hH⟩ := hP
  dsimp only at a1 a2 E5
  subst hdf hH a1 a2
  simp only [List.length_append] at h hl
  cases q1 with
  | nil =>
    cases q2 with
    | nil => simp (disch := omega) only [wk, avalE, aactE, evPE, boundE, asNat, bv_seql cellsEq_ii, bv_sneqd cellsEq_ii, readC, allOne, fillL, resE, tupled, ↓reduceIte, Nat.reduceEqDiff, Int.reduceEq, Int.reduceLT, Int.reduceLE, Nat.reduceAdd, Nat.reduceMul, Nat.reduceLT, Nat.reduceLeDiff, reduceCtorEq, E0, E1, E5, purify, unownT, lend, unown, AV.hf]
    | cons _ _ => exfalso; simp only [List.length_nil, List.length_cons] at h; omega
  | cons x r1 =>
    cases q2 with
    | nil => exfalso; simp only [List.length_nil, List.length_cons] at h; omega
    | cons y r2 =>
      simp only [List.length_cons] at h hl
      obtain rfl := hz1 (by simp)
      obtain rfl := hz2 (by simp)
      obtain ⟨x1, x2⟩ := x
      obtain ⟨y1, y2⟩ := y
      simp (disch := omega) only [wk, avalE, aactE, evPE, boundE, asNat, bv_seql cellsEq_ii, bv_sneqd cellsEq_ii, readC, allOne, fillL, resE, tupled, ↓reduceIte, Nat.reduceEqDiff, Int.reduceEq, Int.reduceLT, Int.reduceLE, Nat.reduceAdd, Nat.reduceMul, Nat.reduceLT, Nat.reduceLeDiff, reduceCtorEq, E0, E1, E5, pairA]
      by_cases hxy : x1 = y1 ∧ x2 = y2
      · obtain ⟨rfl, rfl⟩ := hxy
        simp (disch := omega) only [wk, avalE, aactE, evPE, boundE, asNat, bv_seql cellsEq_ii, bv_sneqd cellsEq_ii, readC, allOne, fillL, resE, tupled, ↓reduceIte, Nat.reduceEqDiff, Int.reduceEq, Int.reduceLT, Int.reduceLE, Nat.reduceAdd, Nat.reduceMul, Nat.reduceLT, Nat.reduceLeDiff, reduceCtorEq, E0, E1, E5]
        refine ih (pre ++ [(x1, x2)], r1, r2) _ _ _ (by simp) ?_
        exact ⟨by simp, by simp, by simp only [en, ↓reduceIte, Nat.reduceEqDiff, E0], by simp only [en, ↓reduceIte, Nat.reduceEqDiff, E1], by simp only [en, ↓reduceIte, Nat.reduceEqDiff], rfl, rfl⟩
      · have h' : ¬ (pre ++ (x1, x2) :: r1 = pre ++ (y1, y2) :: r2) := by
          intro e
          simp only [List.append_cancel_left_eq, List.cons.injEq, Prod.mk.injEq] at e
          exact hxy e.1
        simp (disch := omega) only [wk, avalE, aactE, evPE, boundE, asNat, bv_seql cellsEq_ii, bv_sneqd cellsEq_ii, readC, allOne, fillL, resE, tupled, ↓reduceIte, Nat.reduceEqDiff, Int.reduceEq, Int.reduceLT, Int.reduceLE, Nat.reduceAdd, Nat.reduceMul, Nat.reduceLT, Nat.reduceLeDiff, reduceCtorEq, hxy, purify, unownT, lend, unown, AV.hf, h']

def lowP (X : Int) (p : Int × Int) : Bool := decide (p.1 < X)
theorem filter_low {A B : List (Int × Int)} {x : Int × Int} (h : risingL (A ++ x :: B)) : (A ++ x :: B).filter (lowP x.1) = A ∧ (A ++ x :: B).filter (fun p => !lowP x.1 p) = x :: B := by
  have hb := rising_gt x B (by have := risingL_drop (A ++ x :: B) A.length h; rwa [List.drop_left] at this)
  have ha : ∀ p ∈ A, p.1 < x.1 := by
    clear hb
    induction A with
    | nil => intro p hp; simp at hp
    | cons y r ih =>
      intro p hp
      rcases List.mem_cons.1 hp with rfl | hp
      · exact rising_gt p (r ++ x :: B) h x (by simp)
      · exact ih (risingL_drop (y :: (r ++ x :: B)) 1 h) p hp
  have e1 : A.filter (lowP x.1) = A := List.filter_eq_self.2 (fun p hp => by simp [lowP, ha p hp])
  have e2 : A.filter (fun p => !lowP x.1 p) = [] := List.filter_eq_nil_iff.2 (fun p hp => by simp [lowP, ha p hp])
  have e3 : B.filter (lowP x.1) = [] := List.filter_eq_nil_iff.2 (fun p hp => by have := hb p hp; simp [lowP]; omega)
  have e4 : B.filter (fun p => !lowP x.1 p) = B := List.filter_eq_self.2 (fun p hp => by have := hb p hp; simp [lowP]; omega)
  have e5 : lowP x.1 x = false := by simp [lowP]
  refine ⟨?_, ?_⟩
  · rw [List.filter_append, e1, List.filter_cons_of_neg (by simp [e5]), e3, List.append_nil]
  · rw [List.filter_append, e2, List.filter_cons_of_pos (by simp [e5]), e4, List.nil_append]
end Go.Proofs.Ytailfegmnkldoaa
