/- THE LAW NamesHolds COMES TO true. No condition but those stated. -/
import Derived.Test.YtmogflndepihnaaDoorK11
import Derived.Test.YtmogflndepihnaaDoorLJo
import Derived.Test.YtmogflndepihnaaDoorLSh
set_option linter.unusedSimpArgs false
set_option linter.unusedVariables false
set_option linter.unusedSectionVars false
namespace Go.Proofs.YtmogflndepihnaaDoor
open Go Go.Am Go.Rec Go.Nam
set_option maxHeartbeats 4000000
set_option maxRecDepth 10000
theorem nameM_zero {x : List UInt8} (h1 : x ≠ []) (h2 : dotsM (bs x) = false) (h3 : 47 ∉ x) (h4 : 0 ∉ x) (h5 : x.length ≤ 120) : nameM (bs x) = 0 := by
  unfold nameM
  rw [bs_toList, bs_data, bs_size, if_neg, if_neg (by omega)]
  intro h
  rcases h with h | h | h
  · exact h1 (eq_of_beq h)
  · rw [h2] at h; cases h
  · have : plainM x = true := by
      unfold plainM
      rw [List.all_eq_true]
      intro b hb
      have a1 : b ≠ 0 := fun e => h4 (e ▸ hb)
      have a2 : b ≠ 47 := fun e => h3 (e ▸ hb)
      simp [a1, a2]
    rw [this] at h; cases h
theorem namesHolds_pc {x : AV} (h : OkS .str x) : (cbL tab).pc 8 [x] = some (.plain (.bool true)) := by
  cases h with
  | str s hs =>
  have hb := bs_eta s
  generalize s.data.toList = p at hb
  subst hb
  refine pc_wp (fi := c8) rfl rfl (by simp [c8]) (by decide) ?_
  unfold c8
  rw [List.map_cons, List.map_nil, lend_str]
  by_cases h : 2000 < p.length
  · have h' : (2000 : Int) < (p.length : Nat) := by omega
    simp (disch := omega) only [wk, avalE, aactE, evPE, boundE, asNat, bv_seql cellsEq_ii, bv_sneqd cellsEq_ii, readC, allOne, fillL, resE, tupled, ↓reduceIte, Nat.reduceEqDiff, Int.reduceEq, Int.reduceLT, Int.reduceLE, Nat.reduceAdd, Nat.reduceMul, Nat.reduceLT, Nat.reduceLeDiff, reduceCtorEq, bs_size, h', works_px, purify, unownT, AV.hf]
  have h1 : ¬ (2000 : Int) < (p.length : Nat) := by omega
  have s1 := fun H => short_px p (by omega) H
  unfold shortV at s1
  by_cases ep : partsE p = 0
  case neg =>
    rw [if_neg ep] at s1
    simp (disch := omega) only [wk, avalE, aactE, evPE, boundE, asNat, bv_seql cellsEq_ii, bv_sneqd cellsEq_ii, readC, allOne, fillL, resE, tupled, ↓reduceIte, Nat.reduceEqDiff, Int.reduceEq, Int.reduceLT, Int.reduceLE, Nat.reduceAdd, Nat.reduceMul, Nat.reduceLT, Nat.reduceLeDiff, reduceCtorEq, bs_size, h1, s1, num_px, ep, works_px, purify, unownT, AV.hf]
  rw [if_pos ep] at s1
  obtain ⟨b1, b2, b3⟩ := cut_small ep
  obtain ⟨o1, o2, o3, o4⟩ := partsE_ok.1 ep
  have fine : Fine (cutP p) := Fine.cut p
  have fz : ∀ q ∈ cutP p, 0 ∉ q ∧ q.length ≤ 120 := fun q hq => ⟨fun h => o3 ((cutP_mem hq).2.2 _ h), o4 q hq⟩
  have jl := joinM_len o2
  obtain ⟨e2, _⟩ := parts_short fine fz b1
  have c2 : cutP (joinM (cutP p)) = cutP p := cutP_join fine
  have s2 := fun H => short_px (joinM (cutP p)) (by omega) H
  unfold shortV at s2
  rw [if_pos e2, c2] at s2
  have pp := fun H => parts_px p (by omega) H
  have pj := fun H => parts_px (joinM (cutP p)) (by omega) H
  unfold partsV rowV at pp pj
  rw [if_pos ep, ep] at pp
  rw [if_pos e2, c2, e2] at pj
  have sp := fun H => split_px p (by omega) H
  unfold splitV at sp
  rw [if_pos ep] at sp
  have ud := fun d (hd : d.length ≤ 5000) H => under_px p d (by omega) hd H
  unfold underV at ud
  have e0 : (partsE p == 0) = true := by rw [ep]; rfl
  rw [e0] at ud
  simp only [ep, if_true, Bool.true_and] at ud
  have hbl : ¬ (p.length : Int) < ((joinM (cutP p)).length : Nat) := by omega
  generalize cutP p = ps at *
  have sm := fun H => same_px ps ps 1 1 .ro .ro (by omega) (by omega) (fun _ => rfl) (fun _ => rfl) H
  rw [decide_eq_true rfl] at sm
  rcases last_cases ps with rfl | ⟨pre, x, rfl⟩
  · have e : ([] : List (List UInt8)).getLast? = none := rfl
    rw [e] at sp
    simp only at sp
    unfold eS at sp
    have h140 : ¬ (140 : Int) = 0 := by decide
    have sm0 : ∀ H, pcx (cbL tab) 20 [.sl 1 0 [] .ro, .sl 1 0 [] .ro] H = some (.plain (.bool true)) := sm
    simp (disch := omega) only [wk, avalE, aactE, evPE, boundE, asNat, bv_seql cellsEq_ii, bv_sneqd cellsEq_ii, readC, allOne, fillL, resE, tupled, ↓reduceIte, Nat.reduceEqDiff, Int.reduceEq, Int.reduceLT, Int.reduceLE, Nat.reduceAdd, Nat.reduceMul, Nat.reduceLT, Nat.reduceLeDiff, reduceCtorEq, bs_size, h1, s1, s2, pp, pj, num_px, strne', sm0, hbl, sp, h140, works_px, purify, unownT, AV.hf]
  have e : (pre ++ [x]).getLast? = some x := by simp
  have ed : (pre ++ [x]).dropLast = pre := by simp
  have z : (pre ++ [x]).length = pre.length + 1 := by simp
  rw [e, ed] at sp
  simp only at sp
  rw [z] at pp pj sm
  cases hd : dotsM (bs x) with
  | true =>
    rw [hd] at sp
    simp only [if_true] at sp
    unfold eS at sp
    have h140 : ¬ (140 : Int) = 0 := by decide
    simp (disch := omega) only [wk, avalE, aactE, evPE, boundE, asNat, bv_seql cellsEq_ii, bv_sneqd cellsEq_ii, readC, allOne, fillL, resE, tupled, ↓reduceIte, Nat.reduceEqDiff, Int.reduceEq, Int.reduceLT, Int.reduceLE, Nat.reduceAdd, Nat.reduceMul, Nat.reduceLT, Nat.reduceLeDiff, reduceCtorEq, bs_size, h1, s1, s2, pp, pj, num_px, strne', sm, hbl, sp, h140, works_px, purify, unownT, AV.hf]
  | false =>
    rw [hd] at sp
    simp only [Bool.false_eq_true, if_false] at sp
    have finep : Fine pre := fun q hq => fine q (by simp [hq])
    have fzp : ∀ q ∈ pre, 0 ∉ q ∧ q.length ≤ 120 := fun q hq => fz q (by simp [hq])
    have jp : (joinM pre).length ≤ 1000 := by
      have := joinM_take (ps := pre ++ [x]) pre.length b1
      rwa [List.take_left] at this
    obtain ⟨d2, _⟩ := parts_short finep fzp jp
    have dc : cutP (joinM pre) = pre := cutP_join finep
    have u1 := fun H => ud (joinM pre) (by omega) H
    have d0 : (partsE (joinM pre) == 0) = true := by rw [d2]; rfl
    have ub : underB (pre ++ [x]) pre = true := decide_eq_true (List.take_left ..)
    rw [dc, d0, d2, ub] at u1
    simp only [Bool.and_self] at u1
    have pd := fun H => parts_px (joinM pre) (by omega) H
    unfold partsV rowV at pd
    rw [if_pos d2, dc, d2] at pd
    have hx := fine x (by simp)
    have hx0 := fz x (by simp)
    have ck := fun H => ncheck_px (bs x) H
    rw [nameM_zero hx.1 hd hx.2 hx0.1 hx0.2] at ck
    have tkp : ∀ k, (encs strA pre).take (pre.length * 1) = encs strA pre := fun _ => List.take_of_length_le (by rw [lenS]; omega)
    have sm2 := fun tk H => same_px (pre ++ [x]) (pre ++ [x]) 1 1 tk .ro (by omega) (by omega) (fun _ => rfl) (fun _ => rfl) H
    rw [z] at sm2
    simp only [decide_eq_true rfl] at sm2
    have ee : encs strA pre ++ [AV.str (bs x)] = encs strA (pre ++ [x]) := by rw [encs_append]; rfl
    have hC : ∃ C, C = encs strA (pre ++ [x]) := ⟨_, rfl⟩
    obtain ⟨C, hC⟩ := hC
    rw [← hC] at pp pj sm sm2 ee
    clear hC
    simp (disch := omega) only [wk, avalE, aactE, evPE, boundE, asNat, bv_seql cellsEq_ii, bv_sneqd cellsEq_ii, readC, allOne, fillL, resE, tupled, ↓reduceIte, Nat.reduceEqDiff, Int.reduceEq, Int.reduceLT, Int.reduceLE, Nat.reduceAdd, Nat.reduceMul, Nat.reduceLT, Nat.reduceLeDiff, reduceCtorEq, bs_size, h1, s1, s2, pp, pj, num_px, strne', sm, hbl, sp, u1, pd]
    have own0 : Own ([] : Heap) 1 (.sl 1 0 [] .e) 0 [] := .inl ⟨.inr rfl, rfl, rfl⟩
    by_cases hpre : pre = []
    · subst hpre
      have k0 : appV 1 16 (.sl 1 0 [] .e) (.sl 1 ([] : List (List UInt8)).length (encs strA []) .ro) [] = some (.val (.sl 1 0 [] .e), []) := rfl
      rw [k0]
      simp (disch := omega) only [wk, avalE, aactE, evPE, boundE, asNat, bv_seql cellsEq_ii, bv_sneqd cellsEq_ii, readC, allOne, fillL, resE, tupled, ↓reduceIte, Nat.reduceEqDiff, Int.reduceEq, Int.reduceLT, Int.reduceLE, Nat.reduceAdd, Nat.reduceMul, Nat.reduceLT, Nat.reduceLeDiff, reduceCtorEq]
      refine runX_app own0 (by omega) (by omega) (by omega) (by omega) rfl rfl (fun H2 q1 q2 q3 => ?_)
      have l0 : ([] : List (List UInt8)).length = 0 := rfl
      rw [l0] at sm2
      have ee' : ([] : List AV) ++ [AV.str (bs x)] = C := ee
      rw [ee']
      simp (disch := omega) only [wk, avalE, aactE, evPE, boundE, asNat, bv_seql cellsEq_ii, bv_sneqd cellsEq_ii, readC, allOne, fillL, resE, tupled, ↓reduceIte, Nat.reduceEqDiff, Int.reduceEq, Int.reduceLT, Int.reduceLE, Nat.reduceAdd, Nat.reduceMul, Nat.reduceLT, Nat.reduceLeDiff, reduceCtorEq, sm2, ck, num_px, works_px, purify, unownT, AV.hf]
    · have hpl : pre.length ≠ 0 := fun e => hpre (List.eq_nil_of_length_eq_zero e)
      refine runX_app own0 (by omega) (by omega) (by omega) hpl (by rw [lenS]; omega) (one_strA _) (fun H2 q1 q2 q3 => ?_)
      simp only [Nat.zero_add, List.nil_append] at q1 ⊢
      simp (disch := omega) only [wk, avalE, aactE, evPE, boundE, asNat, bv_seql cellsEq_ii, bv_sneqd cellsEq_ii, readC, allOne, fillL, resE, tupled, ↓reduceIte, Nat.reduceEqDiff, Int.reduceEq, Int.reduceLT, Int.reduceLE, Nat.reduceAdd, Nat.reduceMul, Nat.reduceLT, Nat.reduceLeDiff, reduceCtorEq]
      refine runX_app q1 (by omega) (by omega) (by omega) (by omega) rfl rfl (fun H3 r1 r2 r3 => ?_)
      rw [ee]
      simp (disch := omega) only [wk, avalE, aactE, evPE, boundE, asNat, bv_seql cellsEq_ii, bv_sneqd cellsEq_ii, readC, allOne, fillL, resE, tupled, ↓reduceIte, Nat.reduceEqDiff, Int.reduceEq, Int.reduceLT, Int.reduceLE, Nat.reduceAdd, Nat.reduceMul, Nat.reduceLT, Nat.reduceLeDiff, reduceCtorEq, sm2, ck, num_px, works_px, purify, unownT, AV.hf]
end Go.Proofs.YtmogflndepihnaaDoor
