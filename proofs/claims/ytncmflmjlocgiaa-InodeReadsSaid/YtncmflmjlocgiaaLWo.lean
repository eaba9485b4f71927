/- THE LAW InodeWords COMES TO true. No condition but those stated. -/
import Derived.Test.YtncmflmjlocgiaaN12
import Derived.Test.YtncmflmjlocgiaaLSa
set_option linter.unusedSimpArgs false
set_option linter.unusedVariables false
set_option linter.unusedSectionVars false
namespace Go.Proofs.Ytncmflmjlocgiaa
open Go Go.Am Go.Rec Go.Ino
set_option maxHeartbeats 4000000
set_option maxRecDepth 10000
theorem wordsI_u64 {n : Ino} (h : okI n) : ∀ w ∈ wordsI n, 0 ≤ w ∧ w < 18446744073709551616 := by
  have hk := okI_kind h
  have l0 := h.1
  have l1 := h.2.1
  have tl : ∀ w ∈ tailI n, 0 ≤ w ∧ w < 18446744073709551616 := by
    obtain ⟨_, _, hb | hb | hb | hb⟩ := h
    · have ht : tailI n = [] := by simp [tailI, hb.1]
      rw [ht]; simp
    · have ht : tailI n = n.size :: wordsE n.map := by simp [tailI, hb.1]
      have hr := (isSome_right (mapOk_some hb.2.2.2.2.2.2)).2
      have h1 := hb.2.2.2.2.1
      have h2 := hb.2.2.2.2.2.1
      rw [ht]
      intro w hw
      rcases List.mem_cons.1 hw with rfl | hw
      · omega
      · exact wordsE_u64 hr w hw
    · have ht : tailI n = [0, n.root, n.parent] := by simp [tailI, hb.1]
      obtain ⟨_, _, _, _, b1, b2, b3, b4⟩ := hb
      rw [ht]
      intro w hw
      simp only [List.mem_cons, List.not_mem_nil, or_false] at hw
      omega
    · have ht : tailI n = (n.target.size : Int) :: layM n.target.data.toList := by simp [tailI, hb.1]
      have h1 := hb.2.2.2.2.2.2.1
      rw [ht]
      intro w hw
      rcases List.mem_cons.1 hw with rfl | hw
      · omega
      · exact layM_u64 _ w hw
  intro w hw
  rcases List.mem_cons.1 hw with rfl | hw
  · omega
  rcases List.mem_append.1 hw with hw | hw
  · exact tl w hw
  · have := (List.mem_replicate.1 hw).2; omega
theorem decI_words {n : Ino} (h : okI n) {w0 w1 w2 w3 : Int} {r : List Int} (hw : wordsI n = w0 :: w1 :: w2 :: w3 :: r) : decI w0 w1 w2 w3 r = n := by
  have hk := okI_kind h
  have l0 := h.1
  have l1 := h.2.1
  unfold wordsI at hw
  have e0 : n.kind + 256 * n.links = w0 := by
    cases ht : tailI n <;> rw [ht] at hw <;> simp only [List.nil_append, List.cons_append, List.cons.injEq] at hw <;> exact hw.1
  have hkk : w0 % 256 = n.kind := by omega
  have hll : w0 / 256 % 16777216 = n.links := by omega
  obtain ⟨_, _, hb | hb | hb | hb⟩ := h
  · obtain ⟨k, a, b, c, d, e, f⟩ := hb
    have ft : n.target = ⟨#[]⟩ := ((ba_empty n.target).2 f).symm
    obtain ⟨k', l', s', m', r', p', t'⟩ := n
    simp only at k a b c d e ft hkk hll
    subst k a b c d e ft
    simp [decI, hkk, hll]
  · obtain ⟨k, a, b, c, d, e, f⟩ := hb
    have ft : n.target = ⟨#[]⟩ := ((ba_empty n.target).2 c).symm
    have ht : tailI n = n.size :: wordsE n.map := by simp [tailI, k]
    obtain ⟨hl, hr⟩ := isSome_right (mapOk_some f)
    have hl2 := wordsE_len hl
    rw [ht] at hw
    simp only [List.cons_append, List.cons.injEq] at hw
    have hw10 : w10 w2 w3 r = wordsE n.map := by
      have h3 := congrArg (List.take 10) hw.2.2
      rw [List.take_append_of_le_length (by rw [hl2]; exact Nat.le_refl _), List.take_of_length_le (by rw [hl2]; exact Nat.le_refl _)] at h3
      rw [h3]; rfl
    have hre := readE_words hr
    obtain ⟨k', l', s', m', r', p', t'⟩ := n
    simp only at k a b ft hkk hll hw hw10 hre
    subst k a b ft
    simp [decI, hkk, hll, hw10, hre, hw.2.1]
  · obtain ⟨k, a, b, c, d, e, f, g⟩ := hb
    have ft : n.target = ⟨#[]⟩ := ((ba_empty n.target).2 c).symm
    have ht : tailI n = [0, n.root, n.parent] := by simp [tailI, k]
    rw [ht] at hw
    simp only [List.cons_append, List.cons.injEq] at hw
    obtain ⟨k', l', s', m', r', p', t'⟩ := n
    simp only at k a b ft hkk hll hw
    subst k a b ft
    simp [decI, hkk, hll, hw.2.2.1, hw.2.2.2.1]
  · obtain ⟨k, a, b, c, d, e, f, g⟩ := hb
    have ht : tailI n = (n.target.size : Int) :: layM n.target.data.toList := by simp [tailI, k]
    rw [ht] at hw
    simp only [List.cons_append, List.cons.injEq] at hw
    have ht2 : textI w1 w2 w3 r = n.target := by
      unfold textI
      rw [← hw.2.2, ← hw.2.1, Int.toNat_natCast, ← size_data, bytM_layM]
    obtain ⟨k', l', s', m', r', p', t'⟩ := n
    simp only at k a b c d hkk hll ht2
    subst k a b c d
    simp [decI, hkk, hll, ht2]
theorem wordsI_shape {n : Ino} (h : okI n) : ∃ w0 w1 w2 w3 r, wordsI n = w0 :: w1 :: w2 :: w3 :: r ∧ WOk w0 w1 w2 w3 r [] := by
  have hl := wordsI_len h
  have hu := wordsI_u64 h
  match hw : wordsI n, hl with
  | w0 :: w1 :: w2 :: w3 :: r, hl =>
    rw [hw] at hu
    exact ⟨w0, w1, w2, w3, r, rfl, by simpa using hl, hu w0 (by simp), hu w1 (by simp), hu w2 (by simp), hu w3 (by simp), fun x hx => hu x (by simp [hx]), rfl⟩
theorem ofI_words {n : Ino} (h : okI n) {w0 w1 w2 w3 : Int} {r : List Int} (hw : wordsI n = w0 :: w1 :: w2 :: w3 :: r) : ofI w0 w1 w2 w3 r = (n, 0) := by
  have hd := decI_words h hw
  unfold ofI
  by_cases h0 : w0 = 0
  · rw [if_pos h0]
    have hk := okI_kind h
    have l0 := h.1
    have e0 : n.kind + 256 * n.links = w0 := by
      unfold wordsI at hw
      cases ht : tailI n <;> rw [ht] at hw <;> simp only [List.nil_append, List.cons_append, List.cons.injEq] at hw <;> exact hw.1
    have k0 : n.kind = 0 := by omega
    obtain ⟨_, _, hb | hb | hb | hb⟩ := h
    · obtain ⟨k, a, b, c, d, e, f⟩ := hb
      have ft : n.target = ⟨#[]⟩ := ((ba_empty n.target).2 f).symm
      obtain ⟨k', l', s', m', r', p', t'⟩ := n
      simp only at k a b c d e ft
      subst k a b c d e ft
      rfl
    all_goals omega
  · rw [if_neg h0, if_pos ⟨by rw [hd]; exact h, by rw [hd]; exact hw⟩, hd]
theorem inodeWords_pc {xs : List AV} (h : OkL shI xs) : (cbL tab).pc 11 [.agg xs] = some (.plain (.bool true)) := by
  obtain ⟨n, m, e1, hm, _⟩ := okL_ino h
  rw [e1]
  refine pc_wp (fi := c11) rfl ?_ (by simp [c11]) (by decide) ?_
  · simp only [pcOn, List.map_cons, List.map_nil, hfL, hf_lend_sl, hf_lend_int, hf_lend_bool, hf_lend_str, hfL_append, Bool.and_self, Bool.and_true, Bool.true_and, c11, lend_inoA hm, hf_inoA hm]
  unfold c11
  rw [List.map_cons, List.map_nil, lend_inoA hm]
  have fa := fun H => few_px n m hm H
  have m1 := hm.one.1
  have m2 := hm.one.2
  simp only [inoA] at fa ⊢
  by_cases c1 : n.map.length ≤ 30 ∧ n.target.size ≤ 300
  case neg =>
    have c1' : decide (n.map.length ≤ 30 ∧ n.target.size ≤ 300) = false := decide_eq_false c1
    clear c1
    simp (disch := omega) only [wk, avalE, aactE, evPE, boundE, asNat, bv_seql cellsEq_ii, bv_sneqd cellsEq_ii, readC, allOne, fillL, resE, tupled, ↓reduceIte, Nat.reduceEqDiff, Int.reduceEq, Int.reduceLT, Int.reduceLE, Nat.reduceAdd, Nat.reduceMul, Nat.reduceLT, Nat.reduceLeDiff, reduceCtorEq, m1, m2, fa, c1', works_px, purify, unownT, AV.hf]
  have c1' : decide (n.map.length ≤ 30 ∧ n.target.size ≤ 300) = true := decide_eq_true c1
  have w1 := fun H => words_px n m hm (by omega) H
  have w2 := fun H => rwords14_px n m hm (by omega) (by omega) H
  have k1 := fun H => check_px n m hm (by omega) H
  have k2 := fun H => rcheck_px n m hm (by omega) (by omega) H
  simp only [inoA] at w1 w2 k1 k2
  by_cases ho : okI n
  case neg =>
    rw [wordsV_no ho] at w1 w2
    rw [checkI_no ho] at k1 k2
    have sm := fun H => same_px [] [] [] [] 0 0 .z .z H (by simp) (by simp) (fun h => absurd rfl h) (fun h => absurd rfl h) rfl rfl
    simp only [List.append_nil, encs_nil, List.length_nil, decide_true] at sm
    clear c1
    simp (disch := omega) only [wk, avalE, aactE, evPE, boundE, asNat, bv_seql cellsEq_ii, bv_sneqd cellsEq_ii, readC, allOne, fillL, resE, tupled, ↓reduceIte, Nat.reduceEqDiff, Int.reduceEq, Int.reduceLT, Int.reduceLE, Nat.reduceAdd, Nat.reduceMul, Nat.reduceLT, Nat.reduceLeDiff, reduceCtorEq, m1, m2, fa, c1', w1, w2, k1, k2, sm, num_px, works_px, purify, unownT, AV.hf]
  rw [wordsV_ok ho] at w1 w2
  rw [checkI_ok ho] at k1 k2
  have wl := wordsI_len ho
  have sm := fun H => same_px (wordsI n) (wordsI n) [] [] 1 1 .ro .ro H (by omega) (by omega) (fun _ => rfl) (fun _ => rfl) rfl rfl
  simp only [List.append_nil, wl, decide_true] at sm
  obtain ⟨a0, a1, a2, a3, r, hw, hok⟩ := wordsI_shape ho
  have oo := fun H => xofI_px a0 a1 a2 a3 r [] .ro H hok
  rw [ofI_words ho hw, ← wlit_eq, ← hw, List.append_nil] at oo
  have rs := fun H => rsame_px' n n (mapV n.map) m (MapR.of _) hm (by omega) (by omega) H
  rw [show sameB n n = true from sameB_iff.2 rfl] at rs
  have mo1 := (MapR.of n.map).one.1
  have mo2 := (MapR.of n.map).one.2
  simp only [ofIV, inoA] at oo rs
  clear c1
  simp (disch := omega) only [wk, avalE, aactE, evPE, boundE, asNat, bv_seql cellsEq_ii, bv_sneqd cellsEq_ii, readC, allOne, fillL, resE, tupled, ↓reduceIte, Nat.reduceEqDiff, Int.reduceEq, Int.reduceLT, Int.reduceLE, Nat.reduceAdd, Nat.reduceMul, Nat.reduceLT, Nat.reduceLeDiff, reduceCtorEq, m1, m2, mo1, mo2, fa, c1', w1, w2, k1, k2, sm, oo, rs, num_px, works_px, List.append_nil, purify, unownT, AV.hf]
end Go.Proofs.Ytncmflmjlocgiaa
