/- THE LAW InodeReads COMES TO true. No condition but those stated. -/
import Derived.Test.YtncmflmjlocgiaaLWo
set_option linter.unusedSimpArgs false
set_option linter.unusedVariables false
set_option linter.unusedSectionVars false
namespace Go.Proofs.Ytncmflmjlocgiaa
open Go Go.Am Go.Rec Go.Ino
set_option maxHeartbeats 4000000
set_option maxRecDepth 10000
/-- What a slice of words is. -/
theorem ok_words {v : AV} (h : OkS (.slice [.int .u64]) v) : ∃ (xs : List Int) (tk : Tk), v = .sl 1 xs.length (encs u64A xs) tk ∧ (xs.length : Int) ≤ 9223372036854775807 ∧ ∀ x ∈ xs, 0 ≤ x ∧ x < 18446744073709551616 := by
  cases h with
  | slnil _ => exact ⟨[], .z, rfl, by decide, fun x hx => by simp at hx⟩
  | sl _ rows hm hl hr =>
    have : ∀ rows : List (List AV), (∀ r ∈ rows, r.length = 1) → (∀ r ∈ rows, ∀ (i : Nat) (s : Sh) (v : AV), [Sh.int .u64][i]? = some s → r[i]? = some v → OkS s v) →
        ∃ xs : List Int, rows.flatten = encs u64A xs ∧ xs.length = rows.length ∧ ∀ x ∈ xs, 0 ≤ x ∧ x < 18446744073709551616 := by
      intro rows
      induction rows with
      | nil => intro _ _; exact ⟨[], rfl, rfl, fun x hx => by simp at hx⟩
      | cons r rows ih =>
        intro h1 h2
        obtain ⟨xs, k1, k2, k3⟩ := ih (fun r hr => h1 r (List.mem_cons_of_mem _ hr)) (fun r hr => h2 r (List.mem_cons_of_mem _ hr))
        have hr1 := h1 r (List.mem_cons_self ..)
        match r, hr1 with
        | [v], _ =>
          have := h2 [v] (List.mem_cons_self ..) 0 _ v rfl rfl
          cases this with
          | int _ n b1 b2 =>
            have b1 : 0 ≤ n := b1
            have b2 : n ≤ 18446744073709551615 := b2
            refine ⟨n :: xs, by rw [List.flatten_cons, k1, encs_cons]; rfl, by simp [k2], fun x hx => ?_⟩
            rcases List.mem_cons.1 hx with rfl | hx
            · exact ⟨b1, by omega⟩
            · exact k3 x hx
    obtain ⟨xs, k1, k2, k3⟩ := this rows hl hr
    exact ⟨xs, .ro, by rw [k1, k2]; rfl, by rw [k2]; omega, k3⟩
theorem app77a (xs : List Int) (u1 : Tk) (hn : xs.length ≤ 40) (h0 : xs ≠ []) : appV 1 8 (.sl 1 0 [] .e) (.sl 1 xs.length (encs u64A xs) u1) [] = some (.val (.sl 1 xs.length (encs u64A xs) (.own 0)), [.tok 1]) := by
  have hp : xs.length ≠ 0 := fun h => h0 (List.length_eq_zero_iff.1 h)
  have ht : (encs u64A xs).take xs.length = encs u64A xs := List.take_of_length_le (by rw [lenU]; omega)
  simp [appV, hp, ht, one_u64A, lenU]
  omega
theorem app77b (xs : List Int) (hn : xs.length ≤ 40) : appV 1 8 (.sl 1 xs.length (encs u64A xs) (.own 0)) (.sl 1 1 [.int .u64 77] .ro) [.tok 1] = some (.val (.sl 1 (xs.length + 1) (encs u64A xs ++ [.int .u64 77]) (.own 1)), [.dead, .tok 1]) := by
  have g1 : (xs.length + 1) * 8 ≤ 70368744177664 := by omega
  have g2 : xs.length + 1 ≤ 70368744177664 := by omega
  simp [appV, g1, g2, allOne, AV.one]
theorem inodeReads_pc {v : AV} (h : OkS (.slice [.int .u64]) v) : (cbL tab).pc 8 [v] = some (.plain (.bool true)) := by
  obtain ⟨xs, tk, rfl, hn, hw⟩ := ok_words h
  obtain ⟨u1, e1, f1⟩ := lend_sl 1 xs.length (encs u64A xs) tk
  refine pc_wp (fi := c8) rfl ?_ (by simp [c8]) (by decide) ?_
  · simp only [pcOn, List.map_cons, List.map_nil, hfL, hf_lend_sl, hf_lend_int, hf_lend_bool, hf_lend_str, hfL_append, Bool.and_self, Bool.and_true, Bool.true_and, c8, hf_u64A]
  unfold c8
  rw [List.map_cons, List.map_nil, e1]
  by_cases h40 : 40 < xs.length
  · have h40' : (40 : Int) < xs.length := by omega
    simp (disch := omega) only [wk, avalE, aactE, evPE, boundE, asNat, bv_seql cellsEq_ii, bv_sneqd cellsEq_ii, readC, allOne, fillL, resE, tupled, ↓reduceIte, Nat.reduceEqDiff, Int.reduceEq, Int.reduceLT, Int.reduceLE, Nat.reduceAdd, Nat.reduceMul, Nat.reduceLT, Nat.reduceLeDiff, reduceCtorEq, h40', works_px, purify, unownT, AV.hf]
  have h40' : ¬ (40 : Int) < xs.length := by omega
  have sm := fun H => same_px xs xs [.int .u64 77] [] 1 1 .ro u1 H (by omega) (by omega) (fun _ => rfl) (fun _ => rfl) rfl rfl
  simp only [List.append_nil, decide_true] at sm
  have d77 : List.drop xs.length (encs u64A xs ++ [.int .u64 77]) = [.int .u64 77] := by
    rw [List.drop_append_of_le_length (by rw [lenU]; exact Nat.le_refl _), List.drop_of_length_le (by rw [lenU]; exact Nat.le_refl _)]; rfl
  have l77 : (encs u64A xs ++ [AV.int .u64 77]).length = xs.length + 1 := by rw [List.length_append, lenU]; rfl
  by_cases h16 : xs.length = 16
  case neg =>
    have oo := fun H => xofI_no xs [.int .u64 77] 1 .ro H (by omega) h16 rfl
    have ro := fun H => rofI_no xs [] 1 u1 H (by omega) h16 rfl
    have rs := fun H => rsame_px' zeroI zeroI (mapV []) (mapV []) (MapR.of []) (MapR.of []) (by decide) (by decide) H
    rw [show sameB zeroI zeroI = true from sameB_iff.2 rfl] at rs
    have ez : inoA zeroI (mapV []) = .agg [.int .i64 0, .int .i64 0, .int .i64 0, .sl 0 0 [] .z, .int .i64 0, .int .i64 0, .str ⟨#[]⟩] := rfl
    have ev : ofIV zeroI 240 = .tup [.agg [.int .i64 0, .int .i64 0, .int .i64 0, .sl 0 0 [] .z, .int .i64 0, .int .i64 0, .str ⟨#[]⟩], .int .i64 240] := rfl
    rw [ev] at oo ro
    rw [ez] at rs
    rw [List.append_nil] at ro
    by_cases hne : xs = []
    · subst hne
      have ap1 : appV 1 8 (.sl 1 0 [] .e) (.sl 1 0 [] u1) [] = some (.val (.sl 1 0 [] .e), []) := rfl
      have ap2 : appV 1 8 (.sl 1 0 [] .e) (.sl 1 1 [.int .u64 77] .ro) [] = some (.val (.sl 1 1 [.int .u64 77] (.own 0)), [.tok 1]) := rfl
      simp only [encs_nil, List.nil_append, List.length_nil] at oo ro sm
      have i1 : (1 : Int).toNat = 1 := rfl
      have i0 : (0 : Int).toNat = 0 := rfl
      have c0 : ((0 : Nat) : Int) = 0 := rfl
      have ca : (0 : Int) + 1 = 1 := rfl
      have f40 : ¬ (40 : Int) < 0 := by decide
      have l1 : [AV.int .u64 77].length = 1 := rfl
      simp (disch := omega) only [wk, avalE, aactE, evPE, boundE, asNat, bv_seql cellsEq_ii, bv_sneqd cellsEq_ii, readC, allOne, fillL, resE, tupled, ↓reduceIte, Nat.reduceEqDiff, Int.reduceEq, Int.reduceLT, Int.reduceLE, Nat.reduceAdd, Nat.reduceMul, Nat.reduceLT, Nat.reduceLeDiff, reduceCtorEq, f40, ap1, ap2, oo, ro, rs, sm, num_px, works_px, c0, ca, i0, i1, l1, List.append_nil, purify, unownT, AV.hf]
    · have ap1 := app77a xs u1 (by omega) hne
      have ap2 := app77b xs (by omega)
      simp (disch := omega) only [wk, avalE, aactE, evPE, boundE, asNat, bv_seql cellsEq_ii, bv_sneqd cellsEq_ii, readC, allOne, fillL, resE, tupled, ↓reduceIte, Nat.reduceEqDiff, Int.reduceEq, Int.reduceLT, Int.reduceLE, Nat.reduceAdd, Nat.reduceMul, Nat.reduceLT, Nat.reduceLeDiff, reduceCtorEq, h40', ap1, ap2, l77, oo, ro, rs, sm, num_px, works_px, d77, List.append_nil, purify, unownT, AV.hf]
  obtain ⟨w0, w1, w2, w3, r, hx⟩ : ∃ w0 w1 w2 w3 r, xs = w0 :: w1 :: w2 :: w3 :: r := by
    cases xs with
    | nil => simp at h16
    | cons w0 xs =>
      cases xs with
      | nil => simp at h16
      | cons w1 xs =>
        cases xs with
        | nil => simp at h16
        | cons w2 xs =>
          cases xs with
          | nil => simp at h16
          | cons w3 xs => exact ⟨_, _, _, _, _, rfl⟩
  have hne : xs ≠ [] := by rw [hx]; simp
  have hok : ∀ rest, hfL rest = true → WOk w0 w1 w2 w3 r rest := fun rest hr => by
    rw [hx] at h16
    have hw' : ∀ x ∈ w0 :: w1 :: w2 :: w3 :: r, 0 ≤ x ∧ x < 18446744073709551616 := by rw [← hx]; exact hw
    exact ⟨by simpa using h16, hw' w0 (by simp), hw' w1 (by simp), hw' w2 (by simp), hw' w3 (by simp), fun x hx => hw' x (by simp [hx]), hr⟩
  have oo := fun H => xofI_px w0 w1 w2 w3 r [.int .u64 77] .ro H (hok _ rfl)
  have ro := fun H => rofI_px w0 w1 w2 w3 r [] u1 H (hok _ rfl)
  rw [← wlit_eq, ← hx] at oo ro
  rw [List.append_nil] at ro
  have ap1 := app77a xs u1 (by omega) hne
  have ap2 := app77b xs (by omega)
  have g0 : (encs u64A xs)[0]? = some (.int .u64 w0) := by rw [hx]; rfl
  have f16 : ¬ (40 : Int) < 16 := by decide
  have i17 : ((16 : Nat) : Int) + 1 = 17 := rfl
  have t17 : (17 : Int).toNat = 17 := rfl
  have t16 : (16 : Int).toNat = 16 := rfl
  have t0' : (0 : Int).toNat = 0 := rfl
  have c16 : ((16 : Nat) : Int) = 16 := rfl
  rw [h16] at ap1 ap2 sm d77 l77 h40'
  generalize hR : ofI w0 w1 w2 w3 r = R at oo ro
  obtain ⟨n', e'⟩ := R
  have hnl : n'.map.length ≤ 1000 := by
    have : n' = (ofI w0 w1 w2 w3 r).1 := by rw [hR]
    rw [this]
    unfold ofI
    split
    · decide
    split
    · simp only [decI]
      split
      · have h1 := readE_len (w10 w2 w3 r)
        have h2 := (hok [] rfl).w10.1
        omega
      · simp
    · decide
  have rs := fun H => rsame_px' n' n' (mapV n'.map) (mapV n'.map) (MapR.of _) (MapR.of _) hnl hnl H
  rw [show sameB n' n' = true from sameB_iff.2 rfl] at rs
  have mo1 := (MapR.of n'.map).one.1
  have mo2 := (MapR.of n'.map).one.2
  simp only [ofIV, inoA] at oo ro rs
  by_cases h0 : w0 = 0
  · have he : e' = 0 := by
      have : e' = (ofI w0 w1 w2 w3 r).2 := by rw [hR]
      rw [this]; unfold ofI; rw [if_pos h0]
    subst he
    rw [h0] at g0
    simp (disch := omega) only [wk, avalE, aactE, evPE, boundE, asNat, bv_seql cellsEq_ii, bv_sneqd cellsEq_ii, readC, allOne, fillL, resE, tupled, ↓reduceIte, Nat.reduceEqDiff, Int.reduceEq, Int.reduceLT, Int.reduceLE, Nat.reduceAdd, Nat.reduceMul, Nat.reduceLT, Nat.reduceLeDiff, reduceCtorEq, h16, h40', f16, ap1, ap2, l77, oo, ro, sm, rs, mo1, mo2, num_px, works_px, d77, c16, i17, t17, t16, t0', g0, List.append_nil, purify, unownT, AV.hf]
  by_cases hg : goodI w0 w1 w2 w3 r
  · have hR2 : ofI w0 w1 w2 w3 r = (decI w0 w1 w2 w3 r, 0) := by unfold ofI; rw [if_neg h0, if_pos hg]
    rw [hR] at hR2
    obtain ⟨rfl, rfl⟩ := Prod.mk.inj hR2
    have wp := fun H => words_px (decI w0 w1 w2 w3 r) (mapV (decI w0 w1 w2 w3 r).map) (MapR.of _) hnl H
    rw [wordsV_ok hg.1, hg.2, ← hx] at wp
    have sm2 := fun H => same_px xs xs [] [] 1 1 .ro u1 H (by omega) (by omega) (fun _ => rfl) (fun _ => rfl) rfl rfl
    simp only [List.append_nil, decide_true, h16] at sm2
    simp only [inoA] at wp
    simp (disch := omega) only [wk, avalE, aactE, evPE, boundE, asNat, bv_seql cellsEq_ii, bv_sneqd cellsEq_ii, readC, allOne, fillL, resE, tupled, ↓reduceIte, Nat.reduceEqDiff, Int.reduceEq, Int.reduceLT, Int.reduceLE, Nat.reduceAdd, Nat.reduceMul, Nat.reduceLT, Nat.reduceLeDiff, reduceCtorEq, h16, h40', f16, ap1, ap2, l77, oo, ro, sm, sm2, rs, mo1, mo2, num_px, works_px, d77, c16, i17, t17, t16, t0', g0, h0, wp, List.append_nil, purify, unownT, AV.hf]
  · have he : e' = 240 := by
      have : e' = (ofI w0 w1 w2 w3 r).2 := by rw [hR]
      rw [this]; unfold ofI; rw [if_neg h0, if_neg hg]
    subst he
    simp (disch := omega) only [wk, avalE, aactE, evPE, boundE, asNat, bv_seql cellsEq_ii, bv_sneqd cellsEq_ii, readC, allOne, fillL, resE, tupled, ↓reduceIte, Nat.reduceEqDiff, Int.reduceEq, Int.reduceLT, Int.reduceLE, Nat.reduceAdd, Nat.reduceMul, Nat.reduceLT, Nat.reduceLeDiff, reduceCtorEq, h16, h40', f16, ap1, ap2, l77, oo, ro, sm, rs, mo1, mo2, num_px, works_px, d77, c16, i17, t17, t16, List.append_nil, purify, unownT, AV.hf]
end Go.Proofs.Ytncmflmjlocgiaa
