/- THE LAW NodeSplits COMES TO true. -/
import Derived.Test.YtailfegmnkldoaaN11
import Derived.Test.YtailfegmnkldoaaNL
import Derived.Test.YtailfegmnkldoaaS0
import Derived.Test.YtailfegmnkldoaaS14
set_option linter.unusedSimpArgs false
set_option linter.unusedVariables false
set_option linter.unusedSectionVars false
namespace Go.Proofs.Ytailfegmnkldoaa
open Go Go.Am Go.Slots Go.Nod
set_option maxHeartbeats 4000000
set_option maxRecDepth 10000
theorem slvR_putA (l : List (Int × Int)) : ∃ (z : Nat) (k : Tk), slvR 2 putA l = .sl z l.length (encs putA l) k ∧ (l ≠ [] → z = 2) ∧ k.hf = true := by
  unfold slvR
  split
  · rename_i he
    exact ⟨0, .z, rfl, fun hne => absurd (List.isEmpty_iff.1 he) hne, rfl⟩
  · exact ⟨2, .ro, rfl, fun _ => rfl, rfl⟩
theorem puts_nil (H : Heap) : pcx (cbL tab) 25 [.sl 0 0 [] .z, .sl 0 0 [] .z] H = some (.plain (.bool true)) :=
  pcx_N rfl (samePuts_pc [] [] 0 0 .z .z (fun h => absurd rfl h) (fun h => absurd rfl h) (by decide))
/-- What Split comes to. -/
theorem splR_of (h : Hd) (ps : List (Int × Int)) (to : Int) : (∃ e : Int, e ≠ 0 ∧ SplR h ps to (resS (.sl 0 0 [] .z) [] e)) ∨
    ∃ A B x, h.ok ∧ chkE h ps = 0 ∧ blockI to ∧ rdL h.f ps = A ++ x :: B ∧ A.length = (rdL h.f ps).length / 2 ∧ 2 ≤ (rdL h.f ps).length ∧
      SplR h ps to (resS (.sl 1 64 (wordsA (splH h x) (fillP (splP h x B)) []) .ro) ((1, to) :: splS A.length (B.length + 1)) 0) := by
  by_cases hok : h.ok
  case neg => exact .inl ⟨210, by decide, .bad hok⟩
  by_cases hch : chkE h ps = 0
  case neg => exact .inl ⟨190, by decide, .un hok hch⟩
  by_cases ha : blockI to ∧ 2 ≤ (rdL h.f ps).length
  case neg => exact .inl ⟨2, by decide, .arg hok hch ha⟩
  obtain ⟨A, x, B, e, hA⟩ := cutL _ ha.2
  exact .inr ⟨A, B, x, hok, hch, ha.1, e, hA, ha.2, .ok hok hch ha.1 A B x e hA ha.2⟩
/-- The head of the new node is unsigned. -/
theorem splH_u {h : Hd} {ps : List (Int × Int)} (hu : h.u) (hok : h.ok) (hps : ∀ p ∈ ps, 0 ≤ p.1 ∧ p.1 ≤ 18446744073709551615 ∧ 0 ≤ p.2 ∧ p.2 ≤ 18446744073709551615) {x : Int × Int} (hx : x ∈ ps) : (splH h x).u := by
  have hx' := hps x hx
  have hm12 : 0 ≤ h.m - nmark ∧ h.m - nmark ≤ 12 := by have := hok.1; have := hok.2.1; omega
  unfold splH
  split
  · exact hdN_u ⟨by omega, by omega⟩ hu.s ⟨hx'.1, by omega⟩ ⟨by decide, by decide⟩ ⟨by omega, by omega⟩
  · exact hdN_u hm12 hu.s ⟨hx'.1, by omega⟩ ⟨hx'.2.2.1, by omega⟩ ⟨by omega, by omega⟩
theorem splP_len {h : Hd} {ps Z : List (Int × Int)} (hS : SetR h ps Z) (hp : ps.length = 28) {A B : List (Int × Int)} {x : Int × Int} (e : rdL h.f ps = A ++ x :: B) : (splP h x B).length ≤ 28 ∧ x ∈ ps ∧ (rdL h.f ps).length ≤ 27 := by
  have h1 := congrArg List.length hS.eq
  rw [List.length_append] at h1
  have h3 := List.length_pos_iff.2 hS.ne
  have h2 : (rdL h.f ps).length = A.length + (B.length + 1) := by rw [e]; simp
  refine ⟨?_, ?_, by omega⟩
  · unfold splP
    split
    · simp only [List.length_cons]; omega
    · omega
  · rw [hS.eq, e]; simp
theorem nodeSplits_pc {x0 x1 : AV} (h0 : OkS (.slice [.int .u64]) x0) (h1 : OkS (.int .i64) x1) : (cbL tab).pc 4 [x0, x1] = some (.plain (.bool true)) := by
  obtain ⟨xs, tk, rfl, hn, hx⟩ := ok_words h0
  obtain ⟨to, rfl, _, _⟩ := ok_int h1
  have hu := hf_u64A xs
  obtain ⟨u1, e1, f1⟩ := lend_sl 1 xs.length (encs u64A xs) tk
  refine pc_wp (fi := c4) rfl ?_ (by simp [c4]) (by decide) ?_
  · simp only [pcOn, List.map_cons, List.map_nil, hfL, hf_lend_sl, hf_lend_int, hf_lend_bool, hf_lend_str, hfL_append, Bool.and_self, Bool.and_true, Bool.true_and, c4, hu]
  unfold c4
  rw [List.map_cons, List.map_cons, List.map_nil, e1, lend_int]
  by_cases hlen : 70 < xs.length
  · simp (disch := omega) only [wk, avalE, aactE, evPE, boundE, asNat, bv_seql cellsEq_ii, bv_sneqd cellsEq_ii, readC, allOne, fillL, resE, tupled, ↓reduceIte, Nat.reduceEqDiff, Int.reduceEq, Int.reduceLT, Int.reduceLE, Nat.reduceAdd, Nat.reduceMul, Nat.reduceLT, Nat.reduceLeDiff, reduceCtorEq, works_px, purify, unownT, lend, unown, AV.hf]
  have hlp := fun H => lent_px xs.length (encs u64A xs) u1 H (by omega) (by rw [encs_length]; omega) hu (one_u64A xs)
  have hcl : hfL (encs u64A xs ++ [.int .u64 77]) = true := by rw [hfL_append, hu]; rfl
  have er : resS (.sl 0 0 [] .z) [] = fun e => .tup [.sl 0 0 [] .z, .sl 0 0 [] .z, .int .i64 e] := rfl
  by_cases h64 : xs.length = 64
  case neg =>
    have ha := fun H => split_len xs.length _ .ro to H hn hcl h64
    have hb := fun H => refsplit_len xs.length _ u1 to H hn hu h64
    rw [er] at ha hb
    simp (disch := omega) only [wk, avalE, aactE, evPE, boundE, asNat, bv_seql cellsEq_ii, bv_sneqd cellsEq_ii, readC, allOne, fillL, resE, tupled, ↓reduceIte, Nat.reduceEqDiff, Int.reduceEq, Int.reduceLT, Int.reduceLE, Nat.reduceAdd, Nat.reduceMul, Nat.reduceLT, Nat.reduceLeDiff, reduceCtorEq, hlp, ha, hb, same_nil, puts_nil, num_px, works_px, runG_un, purify, unownT, lend, unown, AV.hf]
  obtain ⟨h, ps, k1, k2, k3, k4⟩ := words_at xs hx h64
  rcases splR_of h ps to with ⟨e, he, hr⟩ | ⟨A, B, x, hok, hch, hto, ex, hA, h2, hr⟩
  · have ha := fun H => split_words h k3 ps k2 [.int .u64 77] .ro to H rfl hr
    have hb := fun H => refsplit_words h k3 ps k2 [] u1 to H rfl hr
    rw [er] at ha hb
    rw [h64, k1, words_rest] at hlp
    rw [h64, k1]
    simp (disch := omega) only [wk, avalE, aactE, evPE, boundE, asNat, bv_seql cellsEq_ii, bv_sneqd cellsEq_ii, readC, allOne, fillL, resE, tupled, ↓reduceIte, Nat.reduceEqDiff, Int.reduceEq, Int.reduceLT, Int.reduceLE, Nat.reduceAdd, Nat.reduceMul, Nat.reduceLT, Nat.reduceLeDiff, reduceCtorEq, hlp, ha, hb, he, same_nil, puts_nil, num_px, works_px, runG_un, purify, unownT, lend, unown, AV.hf]
  obtain ⟨Z, hS⟩ := setR_of hch
  obtain ⟨g1, g2, g3⟩ := splP_len hS k2 ex
  have ha := fun H => split_words h k3 ps k2 [.int .u64 77] .ro to H rfl hr
  have hb := fun H => refsplit_words h k3 ps k2 [] u1 to H rfl hr
  rw [h64, k1, words_rest] at hlp
  rw [h64, k1]
  have hfl := fillP_len g1
  obtain ⟨n1, n2, _⟩ := new_ok hok hS k2 ex
  have sw := fun k1 k2 H => same_words (splH h x) (fillP (splP h x B)) hfl k1 k2 H
  have ck := fun H => nodecheck_words (splH h x) (splH_u k3 hok k4 g2) (fillP (splP h x B)) hfl [] .ro H rfl
  rw [if_pos n1, n2] at ck
  obtain ⟨z, k, ev, hz, kf⟩ := slvR_putA ((1, to) :: splS A.length (B.length + 1))
  have hll : ((1, to) :: splS A.length (B.length + 1)).length ≤ 40 := by
    have : (rdL h.f ps).length = A.length + (B.length + 1) := by rw [ex]; simp
    simp only [List.length_cons, splS_len]; omega
  have hRc : A.length + (B.length + 1) = (rdL h.f ps).length := by rw [ex]; simp
  have sp := fun H => pcx_N (H := H) rfl (samePuts_pc ((1, to) :: splS A.length (B.length + 1)) ((1, to) :: splS A.length (B.length + 1)) z z k k hz hz (by omega))
  have ap := fun H => pcx_N (H := H) rfl (refapply_pc (hd4 h ++ ps) [] u1 ((1, to) :: splS A.length (B.length + 1)) [] z k hz (by omega) (by simp [hd4]) (by simp [hd4, k2]) rfl rfl)
  have eA : appP (hd4 h ++ ps) ((1, to) :: splS A.length (B.length + 1)) = hd4 (withS h to) ++ cutR (rdL h.f ps) Z A.length := by
    have := app_all hS to A.length (B.length + 1) (B.length + 1) hRc (Nat.le_refl _)
    rwa [List.take_of_length_le (by simp [splS_len]), Nat.add_sub_cancel] at this
  obtain ⟨o1, o2, _⟩ := old_ok hok hS hto.2 A.length
  have hcz : (cutR (rdL h.f ps) Z A.length).length = 28 := by
    rw [cutR_len]
    have := congrArg List.length hS.eq
    rw [List.length_append] at this
    omega
  have ck2 := fun H => nodecheck_words (withS h to) ⟨k3.m, ⟨by have := hto.1; show 0 ≤ to; omega, by have := hto.2; show to < 18446744073709551616; omega⟩, k3.l, k3.f, k3.y⟩ (cutR (rdL h.f ps) Z A.length) hcz [] .ro H rfl
  rw [if_pos o1, o2] at ck2
  have l64 : 2 * (hd4 h ++ ps).length = 64 := by simp [hd4, k2]
  rw [eA] at ap
  have l64' : 2 * (hd4 (withS h to) ++ cutR (rdL h.f ps) Z A.length).length = 64 := by simp [hd4, hcz]
  have w1 : ∀ (h : Hd) (q : List (Int × Int)), encs pairA (hd4 h ++ q) = wordsA h q [] := fun h q => by rw [words_row, List.append_nil]
  simp only [row, l64, l64', List.append_nil, w1] at ap
  simp only [resS, ev] at ha hb
  generalize encs putA ((1, to) :: splS A.length (B.length + 1)) = PC at *
  generalize ((1, to) :: splS A.length (B.length + 1)).length = PN at *
  generalize wordsA (splH h x) (fillP (splP h x B)) [] = WN at *
  generalize wordsA (withS h to) (cutR (rdL h.f ps) Z A.length) [] = WO at *
  simp (disch := omega) only [wk, avalE, aactE, evPE, boundE, asNat, bv_seql cellsEq_ii, bv_sneqd cellsEq_ii, readC, allOne, fillL, resE, tupled, ↓reduceIte, Nat.reduceEqDiff, Int.reduceEq, Int.reduceLT, Int.reduceLE, Nat.reduceAdd, Nat.reduceMul, Nat.reduceLT, Nat.reduceLeDiff, reduceCtorEq, hlp, ha, hb, sw, sp, ck, ap, ck2, num_px, works_px, runG_un, purify, unownT, lend, unown, AV.hf]
end Go.Proofs.Ytailfegmnkldoaa
