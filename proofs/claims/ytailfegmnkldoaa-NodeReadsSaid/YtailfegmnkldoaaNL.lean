/- WHAT THE LAWS OF NODES SHARE: what their arguments are. No condition but those stated. -/
import Derived.Test.YtailfegmnkldoaaNW
import Derived.Test.YtailfegmnkldoaaAmOpen
set_option linter.unusedSimpArgs false
set_option linter.unusedVariables false
set_option linter.unusedSectionVars false
namespace Go.Proofs.Ytailfegmnkldoaa
open Go Go.Am Go.Slots Go.Nod
set_option maxHeartbeats 2000000
set_option maxRecDepth 10000
/-- What a slice of words is. -/
theorem ok_words {v : AV} (h : OkS (.slice [.int .u64]) v) : ∃ (xs : List Int) (tk : Tk), v = .sl 1 xs.length (encs u64A xs) tk ∧ (xs.length : Int) ≤ 9223372036854775807 ∧ ∀ x ∈ xs, 0 ≤ x ∧ x ≤ 18446744073709551615 := by
  cases h with
  | slnil _ => exact ⟨[], .z, rfl, by decide, fun x hx => by simp at hx⟩
  | sl _ rows hm hl hr =>
    have : ∀ rows : List (List AV), (∀ r ∈ rows, r.length = 1) → (∀ r ∈ rows, ∀ (i : Nat) (s : Sh) (v : AV), [Sh.int .u64][i]? = some s → r[i]? = some v → OkS s v) →
        ∃ xs : List Int, rows.flatten = encs u64A xs ∧ xs.length = rows.length ∧ ∀ x ∈ xs, 0 ≤ x ∧ x ≤ 18446744073709551615 := by
      intro rows
      induction rows with
      | nil => intro _ _; exact ⟨[], rfl, rfl, fun x hx => by simp at hx⟩
      | cons r rows ih =>
        intro h1 h2
        obtain ⟨xs, k1, k2, k3⟩ := ih (fun r hr => h1 r (List.mem_cons_of_mem _ hr)) (fun r hr => h2 r (List.mem_cons_of_mem _ hr))
        have hr1 := h1 r (List.mem_cons_self ..)
        match r, hr1 with
        | [v], _ =>
          have := h2 [v] (List.mem_cons_self ..) 0 _ v rfl rfl
          cases this with
          | int _ n b1 b2 =>
            have b1 : 0 ≤ n := b1
            have b2 : n ≤ 18446744073709551615 := b2
            refine ⟨n :: xs, by rw [List.flatten_cons, k1, encs_cons]; rfl, by simp [k2], fun x hx => ?_⟩
            rcases List.mem_cons.1 hx with rfl | hx
            · exact ⟨b1, b2⟩
            · exact k3 x hx
    obtain ⟨xs, k1, k2, k3⟩ := this rows hl hr
    exact ⟨xs, .ro, by rw [k1, k2]; rfl, by rw [k2]; omega, k3⟩
theorem ok_int {k : IntKind} {v : AV} (h : OkS (.int k) v) : ∃ n, v = .int k n ∧ k.min ≤ n ∧ n ≤ k.max := by
  cases h with
  | int _ n h1 h2 => exact ⟨n, rfl, h1, h2⟩
theorem hf_u64A (l : List Int) : hfL (encs u64A l) = true := hfL_encs (fun _ => rfl) l
theorem one_u64A (l : List Int) : allOne (encs u64A l) = true := allOne_encs (fun _ => rfl) l
/-- Words that are 64 are a head's and the slots'. -/
theorem words_at (xs : List Int) (hx : ∀ x ∈ xs, 0 ≤ x ∧ x ≤ 18446744073709551615) (hl : xs.length = 64) : ∃ (h : Hd) (ps : List (Int × Int)), encs u64A xs = wordsA h ps [] ∧ ps.length = 28 ∧ h.u ∧ (∀ p ∈ ps, 0 ≤ p.1 ∧ p.1 ≤ 18446744073709551615 ∧ 0 ≤ p.2 ∧ p.2 ≤ 18446744073709551615) := by
  obtain ⟨h, ps, h1, h2, h3⟩ := words_split xs hl
  have hb : ∀ x ∈ [h.m, h.s, h.l, h.f, h.y, h.a, h.b, h.c], 0 ≤ x ∧ x < 18446744073709551616 := fun x hm => by
    have := hx x (by rw [h3]; exact List.mem_append_left _ hm)
    omega
  refine ⟨h, ps, h1, h2, ⟨hb _ (by simp), hb _ (by simp), hb _ (by simp), hb _ (by simp), hb _ (by simp)⟩, fun p hp => ?_⟩
  have q : ∀ x ∈ [p.1, p.2], x ∈ xs := fun x hm => by
    rw [h3]
    exact List.mem_append_right _ (List.mem_flatMap.2 ⟨p, hp, hm⟩)
  have q1 := hx p.1 (q _ (by simp))
  have q2 := hx p.2 (q _ (by simp))
  exact ⟨q1.1, q1.2, q2.1, q2.2⟩
theorem words_rest (h : Hd) (ps : List (Int × Int)) (r : List AV) : wordsA h ps [] ++ r = wordsA h ps r := by
  simp [wordsA]
theorem wdrop (pre : List Int) (w : Int) (r : List Int) (rest : List AV) : List.drop pre.length (encs u64A (pre ++ w :: r) ++ rest) = .int .u64 w :: (encs u64A r ++ rest) := by
  have := drop_pre2 (f := u64A) pre (w :: r) rest
  rw [Nat.mul_one] at this
  rw [this, encs_cons]; rfl
theorem same_px (a b : List Int) (r1 r2 : List AV) (s1 s2 : Nat) (k1 k2 : Tk) (H : Heap) (ha : a.length ≤ 1000) (hb : b.length ≤ 1000) (z1 : a ≠ [] → s1 = 1) (z2 : b ≠ [] → s2 = 1) (h1 : hfL r1 = true) (h2 : hfL r2 = true) :
    pcx (cbL tab) 24 [.sl s1 a.length (encs u64A a ++ r1) k1, .sl s2 b.length (encs u64A b ++ r2) k2] H = some (.plain (.bool (decide (a = b)))) := by
  obtain ⟨u1, e1, f1⟩ := lend_sl s1 a.length (encs u64A a ++ r1) k1
  obtain ⟨u2, e2, f2⟩ := lend_sl s2 b.length (encs u64A b ++ r2) k2
  refine pcx_N rfl (pc_wp (fi := c24) rfl ?_ (by simp [c24]) (by decide) ?_)
  · simp only [pcOn, List.map_cons, List.map_nil, hfL, hf_lend_sl, hf_lend_int, hf_lend_bool, hf_lend_str, hfL_append, Bool.and_self, Bool.and_true, Bool.true_and, c24, hf_u64A, h1, h2]
  unfold c24
  rw [List.map_cons, List.map_cons, List.map_nil, e1, e2]
  by_cases hl : (a.length : Int) = (b.length : Int)
  case neg =>
    have : ¬ a = b := fun h => hl (by rw [h])
    simp (disch := omega) only [wk, avalE, aactE, evPE, boundE, asNat, bv_seql cellsEq_ii, bv_sneqd cellsEq_ii, readC, allOne, fillL, resE, tupled, ↓reduceIte, Nat.reduceEqDiff, Int.reduceEq, Int.reduceLT, Int.reduceLE, Nat.reduceAdd, Nat.reduceMul, Nat.reduceLT, Nat.reduceLeDiff, reduceCtorEq, hl, this, purify, unownT, lend, unown, AV.hf]
  have hl' : a.length = b.length := by omega
  simp (disch := omega) only [wk, avalE, aactE, evPE, boundE, asNat, bv_seql cellsEq_ii, bv_sneqd cellsEq_ii, readC, allOne, fillL, resE, tupled, ↓reduceIte, Nat.reduceEqDiff, Int.reduceEq, Int.reduceLT, Int.reduceLE, Nat.reduceAdd, Nat.reduceMul, Nat.reduceLT, Nat.reduceLeDiff, reduceCtorEq, hl]
  refine loop_ind (fun (x : List Int × List Int × List Int) E df H => a = x.1 ++ x.2.1 ∧ b = x.1 ++ x.2.2 ∧ E 0 = .sl s1 a.length (encs u64A a ++ r1) u1 ∧ E 1 = .sl s2 b.length (encs u64A b ++ r2) u2 ∧  E 5 = .int .i64 (x.1.length : Nat) ∧ df = [] ∧ H = [])
    (fun x => x.2.1.length) ([], a, b) (by decide) (.inl rfl) ⟨rfl, rfl, rfl, rfl,  rfl, rfl, rfl⟩ ?_
  intro ⟨pre, sa, sb⟩ E df H ih hP
  obtain ⟨a1, a2, E0, E1, E5, hdf, hH⟩ := hP
  dsimp only at a1 a2 E5
  subst hdf hH
  have la : a.length = pre.length + sa.length := by rw [a1, List.length_append]
  have lb : b.length = pre.length + sb.length := by rw [a2, List.length_append]
  cases sa with
  | nil =>
    cases sb with
    | nil =>
      have : a = b := by rw [a1, a2]
      simp only [List.length_nil, Nat.add_zero] at la lb
      simp (disch := omega) only [wk, avalE, aactE, evPE, boundE, asNat, bv_seql cellsEq_ii, bv_sneqd cellsEq_ii, readC, allOne, fillL, resE, tupled, ↓reduceIte, Nat.reduceEqDiff, Int.reduceEq, Int.reduceLT, Int.reduceLE, Nat.reduceAdd, Nat.reduceMul, Nat.reduceLT, Nat.reduceLeDiff, reduceCtorEq, E0, E1, E5, la, lb, this, purify, unownT, lend, unown, AV.hf]
    | cons y r => simp at la lb; omega
  | cons x r =>
    cases sb with
    | nil => simp at la lb; omega
    | cons y q =>
      simp only [List.length_cons] at la lb
      obtain rfl := z1 (by rw [a1]; simp)
      obtain rfl := z2 (by rw [a2]; simp)
      have d1 := wdrop pre x r r1
      have d2 := wdrop pre y q r2
      rw [← a1] at d1
      rw [← a2] at d2
      have n1 : (pre.length : Int) < (a.length : Int) := by omega
      have n2 : (pre.length : Int) < (b.length : Int) := by omega
      by_cases hxy : x = y
      · subst hxy
        simp (disch := omega) only [wk, avalE, aactE, evPE, boundE, asNat, bv_seql cellsEq_ii, bv_sneqd cellsEq_ii, readC, allOne, fillL, resE, tupled, ↓reduceIte, Nat.reduceEqDiff, Int.reduceEq, Int.reduceLT, Int.reduceLE, Nat.reduceAdd, Nat.reduceMul, Nat.reduceLT, Nat.reduceLeDiff, reduceCtorEq, E0, E1, E5, n1, n2, d1, d2]
        refine ih (pre ++ [x], r, q) _ _ _ (by simp) ?_
        exact ⟨by simp [a1], by simp [a2], by simp only [en, ↓reduceIte, Nat.reduceEqDiff, E0], by simp only [en, ↓reduceIte, Nat.reduceEqDiff, E1], by simp only [en, ↓reduceIte, Nat.reduceEqDiff], rfl, rfl⟩
      · have : ¬ a = b := by rw [a1, a2]; simp [hxy]
        simp (disch := omega) only [wk, avalE, aactE, evPE, boundE, asNat, bv_seql cellsEq_ii, bv_sneqd cellsEq_ii, readC, allOne, fillL, resE, tupled, ↓reduceIte, Nat.reduceEqDiff, Int.reduceEq, Int.reduceLT, Int.reduceLE, Nat.reduceAdd, Nat.reduceMul, Nat.reduceLT, Nat.reduceLeDiff, reduceCtorEq, E0, E1, E5, n1, n2, d1, d2, hxy, this, purify, unownT, lend, unown, AV.hf]
/-- Words as a list. -/
theorem words_flat (h : Hd) (ps : List (Int × Int)) : wordsA h ps [] = encs u64A ([h.m, h.s, h.l, h.f, h.y, h.a, h.b, h.c] ++ ps.flatMap fun p => [p.1, p.2]) := by
  have : ∀ ps : List (Int × Int), encs pairA ps = encs u64A (ps.flatMap fun p => [p.1, p.2]) := by
    intro ps
    induction ps with
    | nil => rfl
    | cons p r ih => rw [List.flatMap_cons, encs_append, encs_cons, ih]; rfl
  rw [wordsA, List.append_nil, this, encs_append]
  rfl
theorem flat_len (ps : List (Int × Int)) : (ps.flatMap fun p => [p.1, p.2]).length = 2 * ps.length := by
  induction ps with
  | nil => rfl
  | cons p r ih => rw [List.flatMap_cons, List.length_append, ih, List.length_cons]; simp; omega
theorem same_words (h : Hd) (ps : List (Int × Int)) (hp : ps.length = 28) (k1 k2 : Tk) (H : Heap) : pcx (cbL tab) 24 [.sl 1 64 (wordsA h ps []) k1, .sl 1 64 (wordsA h ps []) k2] H = some (.plain (.bool true)) := by
  have hl : ([h.m, h.s, h.l, h.f, h.y, h.a, h.b, h.c] ++ ps.flatMap fun p => [p.1, p.2]).length = 64 := by
    rw [List.length_append, flat_len, hp]; rfl
  have := same_px ([h.m, h.s, h.l, h.f, h.y, h.a, h.b, h.c] ++ ps.flatMap fun p => [p.1, p.2]) ([h.m, h.s, h.l, h.f, h.y, h.a, h.b, h.c] ++ ps.flatMap fun p => [p.1, p.2]) [] [] 1 1 k1 k2 H (by omega) (by omega) (fun _ => rfl) (fun _ => rfl) rfl rfl
  rw [hl, List.append_nil, ← words_flat] at this
  simpa using this
theorem same_nil (H : Heap) : pcx (cbL tab) 24 [.sl 0 0 [] .z, .sl 0 0 [] .z] H = some (.plain (.bool true)) :=
  same_px [] [] [] [] 0 0 .z .z H (by simp) (by simp) (fun h => absurd rfl h) (fun h => absurd rfl h) rfl rfl
end Go.Proofs.Ytailfegmnkldoaa
