/- THE LAW NodeHolds COMES TO true. -/
import Derived.Test.YtailfegmnkldoaaNH0
set_option linter.unusedSimpArgs false
set_option linter.unusedVariables false
set_option linter.unusedSectionVars false
namespace Go.Proofs.Ytailfegmnkldoaa
open Go Go.Am Go.Slots Go.Nod
set_option maxHeartbeats 8000000
set_option maxRecDepth 10000
theorem nodeHolds_pc {x0 x1 : AV} (h0 : OkS (.slice [.int .u64]) x0) (h1 : OkS (.int .i64) x1) : (cbL tab).pc 5 [x0, x1] = some (.plain (.bool true)) := by
  obtain ⟨xs, tk, rfl, hn, hx⟩ := ok_words h0
  obtain ⟨to, rfl, _, _⟩ := ok_int h1
  have hu := hf_u64A xs
  obtain ⟨u1, e1, f1⟩ := lend_sl 1 xs.length (encs u64A xs) tk
  refine pc_wp (fi := c5) rfl ?_ (by simp [c5]) (by decide) ?_
  · simp only [pcOn, List.map_cons, List.map_nil, hfL, hf_lend_sl, hf_lend_int, hf_lend_bool, hf_lend_str, hfL_append, Bool.and_self, Bool.and_true, Bool.true_and, c5, hu]
  unfold c5
  rw [List.map_cons, List.map_cons, List.map_nil, e1, lend_int]
  by_cases hlen : 70 < xs.length
  · simp (disch := omega) only [wk, avalE, aactE, evPE, boundE, asNat, bv_seql cellsEq_ii, bv_sneqd cellsEq_ii, readC, allOne, fillL, resE, tupled, ↓reduceIte, Nat.reduceEqDiff, Int.reduceEq, Int.reduceLT, Int.reduceLE, Nat.reduceAdd, Nat.reduceMul, Nat.reduceLT, Nat.reduceLeDiff, reduceCtorEq, works_px, purify, unownT, lend, unown, AV.hf]
  have er : resS (.sl 0 0 [] .z) [] = fun e => .tup [.sl 0 0 [] .z, .sl 0 0 [] .z, .int .i64 e] := rfl
  by_cases h64 : xs.length = 64
  case neg =>
    have ha := fun H => split_len xs.length _ u1 to H hn hu h64
    rw [er] at ha
    simp (disch := omega) only [wk, avalE, aactE, evPE, boundE, asNat, bv_seql cellsEq_ii, bv_sneqd cellsEq_ii, readC, allOne, fillL, resE, tupled, ↓reduceIte, Nat.reduceEqDiff, Int.reduceEq, Int.reduceLT, Int.reduceLE, Nat.reduceAdd, Nat.reduceMul, Nat.reduceLT, Nat.reduceLeDiff, reduceCtorEq, ha, num_px, works_px, runG_un, purify, unownT, lend, unown, AV.hf]
  obtain ⟨h, ps, k1, k2, k3, k4⟩ := words_at xs hx h64
  rw [h64, k1]
  rcases splR_of h ps to with ⟨e, he, hr⟩ | ⟨A, B, x, hok, hch, hto, ex, hA, h2, hr⟩
  · have ha := fun H => split_words h k3 ps k2 [] u1 to H rfl hr
    rw [er] at ha
    simp (disch := omega) only [wk, avalE, aactE, evPE, boundE, asNat, bv_seql cellsEq_ii, bv_sneqd cellsEq_ii, readC, allOne, fillL, resE, tupled, ↓reduceIte, Nat.reduceEqDiff, Int.reduceEq, Int.reduceLT, Int.reduceLE, Nat.reduceAdd, Nat.reduceMul, Nat.reduceLT, Nat.reduceLeDiff, reduceCtorEq, ha, he, num_px, works_px, runG_un, purify, unownT, lend, unown, AV.hf]
  obtain ⟨Z, hS⟩ := setR_of hch
  obtain ⟨g1, g2, g3⟩ := splP_len hS k2 ex
  have ha := fun H => split_words h k3 ps k2 [] u1 to H rfl hr
  have hfl := fillP_len g1
  obtain ⟨n1, n2, n3⟩ := new_ok hok hS k2 ex
  have ow := fun H => of_words h k3 ps k2 [] u1 H rfl
  have on := fun H => of_words (splH h x) (splH_u k3 hok k4 g2) (fillP (splP h x B)) hfl [] .ro H rfl
  rw [if_pos hok] at ow
  rw [if_pos n1] at on
  simp only [hok, n1, if_true] at ow on
  have eW : (ndOf h ps).av = .agg [.int .i64 (h.m - nmark), .int .i64 h.s, .int .u64 h.l, .int .u64 h.f, .int .i64 h.y, slvR 2 pairA (rdL h.f ps)] := rfl
  have eO : (ndOf (splH h x) (fillP (splP h x B))).av = .agg [.int .i64 (h.m - nmark), .int .i64 h.s, .int .u64 x.1, .int .u64 (splH h x).f, .int .i64 0, slvR 2 pairA (splP h x B)] := by
    have : (ndOf (splH h x) (fillP (splP h x B))).av = .agg [.int .i64 ((splH h x).m - nmark), .int .i64 (splH h x).s, .int .u64 (splH h x).l, .int .u64 (splH h x).f, .int .i64 (splH h x).y, slvR 2 pairA (rdL (splH h x).f (fillP (splP h x B)))] := rfl
    rw [this, n3]
    by_cases hm : h.m = nmark
    · rw [splH, if_pos hm]
      have e0 : nmark + 0 - nmark = h.m - nmark := by omega
      show AV.agg [.int .i64 (nmark + 0 - nmark), .int .i64 h.s, .int .u64 x.1, .int .u64 leafL, .int .i64 0, _] = _
      rw [e0]; rfl
    · rw [splH, if_neg hm]
      have e0 : nmark + (h.m - nmark) - nmark = h.m - nmark := by omega
      show AV.agg [.int .i64 (nmark + (h.m - nmark) - nmark), .int .i64 h.s, .int .u64 x.1, .int .u64 x.2, .int .i64 0, _] = _
      rw [e0]; rfl
  rw [eW] at ow
  rw [eO] at on
  obtain ⟨zl, kl, el, hzl, kfl⟩ := slvR_putA ((1, to) :: splS A.length (B.length + 1))
  have hRc : A.length + (B.length + 1) = (rdL h.f ps).length := by rw [ex]; simp
  have hll : ((1, to) :: splS A.length (B.length + 1)).length = B.length + 2 := by simp [splS_len]
  obtain rfl := hzl (by simp)
  simp only [resS, el, hll] at ha
  -- behind so many stores
  have hk : ∀ k, k ≤ B.length + 2 → ∃ hh pp, (∀ tk H, pcx (cbL tab) 28 [.sl 1 64 (wordsA h ps []) u1, .sl 2 k (encs putA ((1, to) :: splS A.length (B.length + 1))) tk] H = some (.plain (.sl 1 64 (wordsA hh pp []) .ro))) ∧
      (∀ H, pcx (cbL tab) 29 [.sl 1 64 (wordsA hh pp []) .ro] H = some (.plain (.tup [.agg [.int .i64 (h.m - nmark), .int .i64 (if k = 0 then h.s else to), .int .u64 h.l, .int .u64 h.f, .int .i64 h.y, slvR 2 pairA ((rdL h.f ps).take ((rdL h.f ps).length + 1 - k))], .int .i64 0]))) := by
    intro k hkl
    have ap := fun tk H => pcx_N (H := H) rfl (refapply_pc (hd4 h ++ ps) [] u1 (((1, to) :: splS A.length (B.length + 1)).take k) (encs putA (((1, to) :: splS A.length (B.length + 1)).drop k)) 2 tk (fun _ => rfl) (by rw [List.length_take, hll]; omega) (by simp [hd4]) (by simp [hd4, k2]) rfl (hf_putA _))
    have w1 : ∀ (h : Hd) (q : List (Int × Int)), encs pairA (hd4 h ++ q) = wordsA h q [] := fun h q => by rw [words_row, List.append_nil]
    have l64 : 2 * (hd4 h ++ ps).length = 64 := by simp [hd4, k2]
    have ltk : (((1, to) :: splS A.length (B.length + 1)).take k).length = k := by rw [List.length_take, hll]; omega
    rw [← encs_append, List.take_append_drop, ltk] at ap
    cases k with
    | zero =>
      have a0 : appP (hd4 h ++ ps) (((1, to) :: splS A.length (B.length + 1)).take 0) = hd4 h ++ ps := rfl
      rw [a0] at ap
      simp only [row, l64, List.append_nil, w1] at ap
      refine ⟨h, ps, ap, fun H => ?_⟩
      have := of_words h k3 ps k2 [] .ro H rfl
      simp only [hok, if_true] at this
      rw [this, eW, List.take_of_length_le (by omega)]
      rfl
    | succ k =>
      rw [app_all hS to A.length (B.length + 1) k hRc (by omega)] at ap
      have hcz : (cutR (rdL h.f ps) Z (A.length + (B.length + 1) - k)).length = 28 := by
        rw [cutR_len]
        have := congrArg List.length hS.eq
        rw [List.length_append] at this
        omega
      obtain ⟨o1, o2, o3⟩ := old_ok hok hS hto.2 (A.length + (B.length + 1) - k)
      have l64' : 2 * (hd4 (withS h to) ++ cutR (rdL h.f ps) Z (A.length + (B.length + 1) - k)).length = 64 := by simp [hd4, hcz]
      simp only [row, l64, l64', List.append_nil, w1] at ap
      refine ⟨withS h to, cutR (rdL h.f ps) Z (A.length + (B.length + 1) - k), ap, fun H => ?_⟩
      have := of_words (withS h to) ⟨k3.m, ⟨by have := hto.1; show 0 ≤ to; omega, by have := hto.2; show to < 18446744073709551616; omega⟩, k3.l, k3.f, k3.y⟩ _ hcz [] .ro H rfl
      simp only [o1, if_true] at this
      rw [this]
      have eK : (ndOf (withS h to) (cutR (rdL h.f ps) Z (A.length + (B.length + 1) - k))).av = .agg [.int .i64 (h.m - nmark), .int .i64 to, .int .u64 h.l, .int .u64 h.f, .int .i64 h.y, slvR 2 pairA (rdL (withS h to).f (cutR (rdL h.f ps) Z (A.length + (B.length + 1) - k)))] := rfl
      rw [eK, o3, hRc, show (rdL h.f ps).length + 1 - (k + 1) = (rdL h.f ps).length - k by omega]
      rfl
  obtain ⟨fl1, fl2⟩ := filter_low (by rw [← ex]; exact hS.rise)
  rw [← ex] at fl1 fl2
  have sR := slvR_one (sz := 2) (f := pairA) (rdL h.f ps)
  have sP := slvR_one (sz := 2) (f := pairA) (splP h x B)
  obtain ⟨zR, kR, eR, hzR, kfR⟩ := slv_sl (rdL h.f ps)
  obtain ⟨zP, kP, eP, hzP, kfP⟩ := slv_sl (splP h x B)
  obtain rfl := hzR (by rw [ex]; simp)
  rw [eR] at ow sR
  rw [eP] at on sP
  have hspl : (splP h x B = x :: B ∧ h.m - nmark = 0) ∨ (splP h x B = B ∧ h.m - nmark > 0 ∧ (splH h x).f = x.2) := by
    by_cases hm : h.m = nmark
    · exact .inl ⟨if_pos hm, by omega⟩
    · refine .inr ⟨if_neg hm, by have := hok.1; omega, ?_⟩
      rw [splH, if_neg hm]; rfl
  generalize wordsA (splH h x) (fillP (splP h x B)) [] = WN at *
  generalize (splH h x).f = OF at *
  generalize splP h x B = P at *
  generalize hRe : rdL h.f ps = R at *
  have hLl : (R.length : Int) ≤ 27 := by omega
  have hclR : (encs pairA R).length = R.length * 2 := encs_length (f := pairA) (k := 2) _
  have hcl6 : (encs putA ((1, to) :: splS A.length (B.length + 1))).length = (B.length + 2) * 2 := by rw [encs_length (f := putA) (k := 2), hll]
  generalize hLS : (1, to) :: splS A.length (B.length + 1) = LS at *
  simp (disch := omega) only [wk, avalE, aactE, evPE, boundE, asNat, bv_seql cellsEq_ii, bv_sneqd cellsEq_ii, readC, allOne, fillL, resE, tupled, ↓reduceIte, Nat.reduceEqDiff, Int.reduceEq, Int.reduceLT, Int.reduceLE, Nat.reduceAdd, Nat.reduceMul, Nat.reduceLT, Nat.reduceLeDiff, reduceCtorEq, ha, ow, on, sR, sP, num_px]
  refine loop_ind (fun (z : List (Int × Int) × List (Int × Int) × List (Int × Int) × List (Int × Int)) E df H1 => R = z.1 ++ z.2.1 ∧ A = z.2.2.1 ++ z.2.1.filter (lowP x.1) ∧ x :: B = z.2.2.2 ++ z.2.1.filter (fun p => !lowP x.1 p) ∧
      E 0 = .sl 1 64 (wordsA h ps []) u1 ∧ E 1 = .int .i64 to ∧ E 6 = .sl 2 (B.length + 2) (encs putA LS) kl ∧ E 8 = .ptr 0 0 ∧ E 10 = .ptr 1 0 ∧ E 14 = .int .i64 (z.1.length : Nat) ∧ df = [] ∧
      Own H1 2 (E 12) z.2.2.1.length (encs pairA z.2.2.1) ∧ Own H1 2 (E 13) z.2.2.2.length (encs pairA z.2.2.2) ∧ (tokOf (E 12) = none ∨ tokOf (E 12) ≠ tokOf (E 13)) ∧
      H1[0]? = some (.cells [.int .i64 (h.m - nmark), .int .i64 h.s, .int .u64 h.l, .int .u64 h.f, .int .i64 h.y, .sl 2 R.length (encs pairA R) kR]) ∧
      H1[1]? = some (.cells [.int .i64 (h.m - nmark), .int .i64 h.s, .int .u64 x.1, .int .u64 OF, .int .i64 0, .sl zP P.length (encs pairA P) kP]))
    (fun z => z.2.1.length) ([], R, [], []) (by decide) (.inl rfl) ⟨rfl, fl1.symm, fl2.symm, rfl, rfl, rfl, rfl, rfl, rfl, rfl, .inl ⟨.inl rfl, rfl, rfl⟩, .inl ⟨.inl rfl, rfl, rfl⟩, .inl rfl, rfl, rfl⟩ ?_
  intro ⟨pre, suf, bl, ab⟩ E df H1 ih hP
  obtain ⟨a1, a2, a3, E0, E1, E6, E8, E10, E14, hdf, ho1, ho2, hne, hh0, hh1⟩ := hP
  dsimp only at a1 a2 a3 E14 ho1 ho2
  subst hdf
  have hRl : R.length = pre.length + suf.length := by rw [a1, List.length_append]
  cases suf with
  | cons y r =>
    simp only [List.length_cons] at hRl
    obtain ⟨kk, q⟩ := y
    have lt : (pre.length : Int) < R.length := by omega
    have dr : List.drop (pre.length * 2) (encs pairA R) = .int .u64 kk :: .int .u64 q :: encs pairA r := by rw [a1, drop_pre, encs_cons]; rfl
    have hbl : bl.length ≤ 100 := by have := congrArg List.length a2; rw [List.length_append] at this; omega
    have hab : ab.length ≤ 100 := by have := congrArg List.length a3; rw [List.length_append, List.length_cons] at this; omega
    by_cases g : kk < x.1
    · have gl : lowP x.1 (kk, q) = true := by simp [lowP, g]
      rw [List.filter_cons_of_pos gl] at a2
      rw [List.filter_cons_of_neg (by simp [gl])] at a3
      simp (disch := omega) only [wk, avalE, aactE, evPE, boundE, asNat, bv_seql cellsEq_ii, bv_sneqd cellsEq_ii, readC, allOne, fillL, resE, tupled, ↓reduceIte, Nat.reduceEqDiff, Int.reduceEq, Int.reduceLT, Int.reduceLE, Nat.reduceAdd, Nat.reduceMul, Nat.reduceLT, Nat.reduceLeDiff, reduceCtorEq, E8, E10, E14, hh0, hh1, lt, dr, g]
      refine runX_app ho1 (by omega) (by omega) (by omega) (by omega) rfl rfl (fun H2 r1 r2 r3 => ?_)
      simp (disch := omega) only [wk, avalE, aactE, evPE, boundE, asNat, bv_seql cellsEq_ii, bv_sneqd cellsEq_ii, readC, allOne, fillL, resE, tupled, ↓reduceIte, Nat.reduceEqDiff, Int.reduceEq, Int.reduceLT, Int.reduceLE, Nat.reduceAdd, Nat.reduceMul, Nat.reduceLT, Nat.reduceLeDiff, reduceCtorEq, E14]
      refine ih (pre ++ [(kk, q)], r, bl ++ [(kk, q)], ab) _ _ _ (by simp) ?_
      have s1 : encs pairA (bl ++ [(kk, q)]) = encs pairA bl ++ [.int .u64 kk, .int .u64 q] := by rw [encs_append]; rfl
      refine ⟨by rw [a1]; simp, by rw [a2]; simp, a3, by simp only [en, ↓reduceIte, Nat.reduceEqDiff, E0], by simp only [en, ↓reduceIte, Nat.reduceEqDiff, E1], by simp only [en, ↓reduceIte, Nat.reduceEqDiff, E6], by simp only [en, ↓reduceIte, Nat.reduceEqDiff, E8], by simp only [en, ↓reduceIte, Nat.reduceEqDiff, E10], by simp only [en, ↓reduceIte, Nat.reduceEqDiff], rfl, ?_, ?_, ?_, ?_, ?_⟩
      · simp only [s1, List.length_append, List.length_cons, List.length_nil, Nat.zero_add]
        simp only [en, ↓reduceIte, Nat.reduceEqDiff]
        exact r1
      · simp only [en, ↓reduceIte, Nat.reduceEqDiff]
        refine ho2.kept r2 ?_
        rcases hne with e | e
        · exact .inl e
        · exact .inr e
      · right
        simp only [en, ↓reduceIte, Nat.reduceEqDiff]
        intro e
        simp only [tokOf] at e
        have := ho2.tok_lt e.symm
        omega
      · exact Kept.cells r2 ho1 rfl hh0 (fun s e => by cases e)
      · exact Kept.cells r2 ho1 rfl hh1 (fun s e => by cases e)
    · have gl : lowP x.1 (kk, q) = false := by simp [lowP, g]
      rw [List.filter_cons_of_neg (by simp [gl])] at a2
      rw [List.filter_cons_of_pos (by simp [gl])] at a3
      simp (disch := omega) only [wk, avalE, aactE, evPE, boundE, asNat, bv_seql cellsEq_ii, bv_sneqd cellsEq_ii, readC, allOne, fillL, resE, tupled, ↓reduceIte, Nat.reduceEqDiff, Int.reduceEq, Int.reduceLT, Int.reduceLE, Nat.reduceAdd, Nat.reduceMul, Nat.reduceLT, Nat.reduceLeDiff, reduceCtorEq, E8, E10, E14, hh0, hh1, lt, dr, g]
      refine runX_app ho2 (by omega) (by omega) (by omega) (by omega) rfl rfl (fun H2 r1 r2 r3 => ?_)
      simp (disch := omega) only [wk, avalE, aactE, evPE, boundE, asNat, bv_seql cellsEq_ii, bv_sneqd cellsEq_ii, readC, allOne, fillL, resE, tupled, ↓reduceIte, Nat.reduceEqDiff, Int.reduceEq, Int.reduceLT, Int.reduceLE, Nat.reduceAdd, Nat.reduceMul, Nat.reduceLT, Nat.reduceLeDiff, reduceCtorEq, E14]
      refine ih (pre ++ [(kk, q)], r, bl, ab ++ [(kk, q)]) _ _ _ (by simp) ?_
      have s1 : encs pairA (ab ++ [(kk, q)]) = encs pairA ab ++ [.int .u64 kk, .int .u64 q] := by rw [encs_append]; rfl
      refine ⟨by rw [a1]; simp, a2, by rw [a3]; simp, by simp only [en, ↓reduceIte, Nat.reduceEqDiff, E0], by simp only [en, ↓reduceIte, Nat.reduceEqDiff, E1], by simp only [en, ↓reduceIte, Nat.reduceEqDiff, E6], by simp only [en, ↓reduceIte, Nat.reduceEqDiff, E8], by simp only [en, ↓reduceIte, Nat.reduceEqDiff, E10], by simp only [en, ↓reduceIte, Nat.reduceEqDiff], rfl, ?_, ?_, ?_, ?_, ?_⟩
      · simp only [en, ↓reduceIte, Nat.reduceEqDiff]
        refine ho1.kept r2 ?_
        rcases hne with e | e
        · by_cases e2 : tokOf (E 13) = none
          · exact .inl e2
          · exact .inr (by rw [e]; exact e2)
        · exact .inr (fun e2 => e e2.symm)
      · simp only [s1, List.length_append, List.length_cons, List.length_nil, Nat.zero_add]
        simp only [en, ↓reduceIte, Nat.reduceEqDiff]
        exact r1
      · by_cases e2 : tokOf (E 12) = none
        · left; simp only [en, ↓reduceIte, Nat.reduceEqDiff]; exact e2
        · right
          simp only [en, ↓reduceIte, Nat.reduceEqDiff]
          intro e
          obtain ⟨g', hg'⟩ := Option.ne_none_iff_exists'.1 e2
          have := ho1.tok_lt hg'
          rw [hg'] at e
          simp only [tokOf, Option.some.injEq] at e
          omega
      · exact Kept.cells r2 ho2 rfl hh0 (fun s e => by cases e)
      · exact Kept.cells r2 ho2 rfl hh1 (fun s e => by cases e)
  | nil =>
    simp only [List.length_nil, Nat.add_zero] at hRl
    rw [List.filter_nil, List.append_nil] at a2 a3
    have nl : ¬ (pre.length : Int) < R.length := by omega
    have hA1 : 1 ≤ A.length := by omega
    obtain ⟨g12, E12⟩ : ∃ g, E 12 = .sl 2 A.length (encs pairA A) (.own g) := by
      rcases ho1 with ⟨_, h0, _⟩ | ⟨_, g, e, _⟩
      · rw [← a2] at h0; omega
      · exact ⟨g, by rw [e, a2]⟩
    obtain ⟨g13, E13⟩ : ∃ g, E 13 = .sl 2 (x :: B).length (encs pairA (x :: B)) (.own g) := by
      rcases ho2 with ⟨_, h0, _⟩ | ⟨_, g, e, _⟩
      · rw [← a3] at h0; simp at h0
      · exact ⟨g, by rw [e, a3]⟩
    have hXl : (x :: B).length = B.length + 1 := rfl
    rcases hspl with ⟨hP1, hm0⟩ | ⟨hP1, hm0, hOF⟩
    · subst hP1
      obtain rfl := hzP (by simp)
      have sm0 := fun tk1 tk2 H => pcx_N (H := H) rfl (samePairs_pc (x :: B) (x :: B) 2 2 tk1 tk2 (fun _ => rfl) (fun _ => rfl) (by omega))
      rw [hXl] at sm0 hh1 E13 sP
      generalize encs pairA (x :: B) = XB at *
      rw [hm0] at hh0 hh1
      simp (disch := omega) only [wk, avalE, aactE, evPE, boundE, asNat, bv_seql cellsEq_ii, bv_sneqd cellsEq_ii, readC, allOne, fillL, resE, tupled, ↓reduceIte, Nat.reduceEqDiff, Int.reduceEq, Int.reduceLT, Int.reduceLE, Nat.reduceAdd, Nat.reduceMul, Nat.reduceLT, Nat.reduceLeDiff, reduceCtorEq, E0, E1, E6, E8, E10, E12, E13, E14, hh0, hh1, sP, nl, sm0, runG_un]
      rw [← hm0] at hh0
      refine loop_ind (fun (k : Nat) E df H2 => k ≤ B.length + 3 ∧ E 0 = .sl 1 64 (wordsA h ps []) u1 ∧ E 1 = .int .i64 to ∧ E 6 = .sl 2 (B.length + 2) (encs putA LS) kl ∧ E 8 = .ptr 0 0 ∧ E 12 = .sl 2 A.length (encs pairA A) (.own g12) ∧ E 16 = .int .i64 (k : Nat) ∧ df = [] ∧
          H2[0]? = some (.cells [.int .i64 (h.m - nmark), .int .i64 h.s, .int .u64 h.l, .int .u64 h.f, .int .i64 h.y, .sl 2 R.length (encs pairA R) kR]))
        (fun k => B.length + 3 - k) 0 (by decide) (.inl rfl) ⟨by omega, by simp only [en, ↓reduceIte, Nat.reduceEqDiff, E0], by simp only [en, ↓reduceIte, Nat.reduceEqDiff, E1], by simp only [en, ↓reduceIte, Nat.reduceEqDiff, E6], by simp only [en, ↓reduceIte, Nat.reduceEqDiff, E8], by simp only [en, ↓reduceIte, Nat.reduceEqDiff, E12], by simp only [en, ↓reduceIte, Nat.reduceEqDiff]; rfl, rfl, hh0⟩ ?_
      intro k E df H2 ih hP
      obtain ⟨hkl, E0, E1, E6, E8, E12, E16, hdf, hh0⟩ := hP
      subst hdf
      by_cases hle : k ≤ B.length + 2
      case neg =>
        simp (disch := omega) only [wk, avalE, aactE, evPE, boundE, asNat, bv_seql cellsEq_ii, bv_sneqd cellsEq_ii, readC, allOne, fillL, resE, tupled, ↓reduceIte, Nat.reduceEqDiff, Int.reduceEq, Int.reduceLT, Int.reduceLE, Nat.reduceAdd, Nat.reduceMul, Nat.reduceLT, Nat.reduceLeDiff, reduceCtorEq, E0, E1, E6, E8, E12, E16, hle, works_px, purify, unownT, lend, unown, AV.hf]
      obtain ⟨wh, wp, ap, of⟩ := hk k hle
      generalize wordsA wh wp [] = WK at *
      have q1 : ∀ o : AObj, (H2 ++ [o])[H2.length]? = some o := fun o => by simp
      have q2 : ∀ o : AObj, (H2 ++ [o])[0]? = H2[0]? := fun o => List.getElem?_append_left (by have := (List.getElem?_eq_some_iff.1 hh0).1; exact this)
      have q3 : ∀ o q : AObj, (H2 ++ [o]).set H2.length q = H2 ++ [q] := fun o q => by simp
      by_cases hk2 : 2 ≤ k
      · -- some pairs are struck
        have hTl : (R.take (R.length + 1 - k)).length = R.length + 1 - k := by rw [List.length_take]; omega
        have hne : R.take (R.length + 1 - k) ≠ [] := fun e => by rw [e] at hTl; simp at hTl; omega
        have hk0 : ¬ k = 0 := by omega
        have sT : slvR 2 pairA (R.take (R.length + 1 - k)) = .sl 2 (R.length + 1 - k) (encs pairA (R.take (R.length + 1 - k))) .ro := by
          unfold slvR
          rw [if_neg (by simpa using hne), hTl]
        have sO := slvR_one (sz := 2) (f := pairA) (R.take (R.length + 1 - k))
        rw [sT] at of sO
        have sm := fun tk1 tk2 H => pcx_N (H := H) rfl (samePairs2_pc (R.take (R.length + 1 - k)) (R.take (R.length + 1 - k)) (encs pairA (R.drop (R.length + 1 - k))) (hf_pairA _) 2 2 tk1 tk2 (fun _ => rfl) (fun _ => rfl) (by omega))
        rw [← encs_append, List.take_append_drop, hTl] at sm
        simp only [hk0, if_false] at of
        have hc1 : A.length ≤ R.length + 1 - k := by omega
        have hc2 : R.length + 1 - k < R.length := by omega
        have hcN : k = B.length + 2 → R.length + 1 - k = A.length := by omega
        generalize encs pairA (R.take (R.length + 1 - k)) = TC at *
        generalize R.length + 1 - k = c at *
        by_cases hkN : k = B.length + 2
        · have hcA := hcN hkN
          subst hkN hcA
          simp (disch := omega) only [wk, avalE, aactE, evPE, boundE, asNat, bv_seql cellsEq_ii, bv_sneqd cellsEq_ii, readC, allOne, fillL, resE, tupled, ↓reduceIte, Nat.reduceEqDiff, Int.reduceEq, Int.reduceLT, Int.reduceLE, Nat.reduceAdd, Nat.reduceMul, Nat.reduceLT, Nat.reduceLeDiff, reduceCtorEq, E0, E1, E6, E8, E12, E16, ap, of, sO, q1, q2, q3, hh0, sm, num_px, runG_un]
          refine ih ((B.length + 2) + 1) _ _ _ (by omega) ⟨by omega, by simp only [en, ↓reduceIte, Nat.reduceEqDiff, E0], by simp only [en, ↓reduceIte, Nat.reduceEqDiff, E1], by simp only [en, ↓reduceIte, Nat.reduceEqDiff, E6], by simp only [en, ↓reduceIte, Nat.reduceEqDiff, E8], by simp only [en, ↓reduceIte, Nat.reduceEqDiff, E12], by simp only [en, ↓reduceIte, Nat.reduceEqDiff], rfl, by rw [q2, hh0]⟩
        · have hkN' : ¬ (k : Int) = (B.length : Int) + 2 := by omega
          simp (disch := omega) only [wk, avalE, aactE, evPE, boundE, asNat, bv_seql cellsEq_ii, bv_sneqd cellsEq_ii, readC, allOne, fillL, resE, tupled, ↓reduceIte, Nat.reduceEqDiff, Int.reduceEq, Int.reduceLT, Int.reduceLE, Nat.reduceAdd, Nat.reduceMul, Nat.reduceLT, Nat.reduceLeDiff, reduceCtorEq, E0, E1, E6, E8, E12, E16, ap, of, sO, q1, q2, q3, hh0, sm, num_px, runG_un, hkN']
          refine ih (k + 1) _ _ _ (by omega) ⟨by omega, by simp only [en, ↓reduceIte, Nat.reduceEqDiff, E0], by simp only [en, ↓reduceIte, Nat.reduceEqDiff, E1], by simp only [en, ↓reduceIte, Nat.reduceEqDiff, E6], by simp only [en, ↓reduceIte, Nat.reduceEqDiff, E8], by simp only [en, ↓reduceIte, Nat.reduceEqDiff, E12], by simp only [en, ↓reduceIte, Nat.reduceEqDiff], rfl, by rw [q2, hh0]⟩
      · have hTr : R.take (R.length + 1 - k) = R := List.take_of_length_le (by omega)
        rw [hTr, eR] at of
        have sm := fun tk1 tk2 H => pcx_N (H := H) rfl (samePairs2_pc R R [] rfl 2 2 tk1 tk2 (fun _ => rfl) (fun _ => rfl) (by omega))
        rw [List.append_nil] at sm
        have hc1 : A.length ≤ R.length := by omega
        by_cases hk0 : k = 0
        · subst hk0
          simp only [if_true] at of
          simp (disch := omega) only [wk, avalE, aactE, evPE, boundE, asNat, bv_seql cellsEq_ii, bv_sneqd cellsEq_ii, readC, allOne, fillL, resE, tupled, ↓reduceIte, Nat.reduceEqDiff, Int.reduceEq, Int.reduceLT, Int.reduceLE, Nat.reduceAdd, Nat.reduceMul, Nat.reduceLT, Nat.reduceLeDiff, reduceCtorEq, E0, E1, E6, E8, E12, E16, ap, of, sR, q1, q2, q3, hh0, sm, num_px, runG_un]
          refine ih (0 + 1) _ _ _ (by omega) ⟨by omega, by simp only [en, ↓reduceIte, Nat.reduceEqDiff, E0], by simp only [en, ↓reduceIte, Nat.reduceEqDiff, E1], by simp only [en, ↓reduceIte, Nat.reduceEqDiff, E6], by simp only [en, ↓reduceIte, Nat.reduceEqDiff, E8], by simp only [en, ↓reduceIte, Nat.reduceEqDiff, E12], by simp only [en, ↓reduceIte, Nat.reduceEqDiff], rfl, by rw [q2, hh0]⟩
        · obtain rfl : k = 1 := by omega
          rw [show ((1 : Nat) : Int) = 1 from rfl] at E16
          simp only [hk0, if_false] at of
          simp (disch := omega) only [wk, avalE, aactE, evPE, boundE, asNat, bv_seql cellsEq_ii, bv_sneqd cellsEq_ii, readC, allOne, fillL, resE, tupled, ↓reduceIte, Nat.reduceEqDiff, Int.reduceEq, Int.reduceLT, Int.reduceLE, Nat.reduceAdd, Nat.reduceMul, Nat.reduceLT, Nat.reduceLeDiff, reduceCtorEq, Int.reduceToNat, Int.reduceAdd, Int.reduceSub, Int.reduceMul, Int.reduceNeg, Nat.reduceSub, Nat.reduceDiv, E0, E1, E6, E8, E12, E16, ap, of, sR, q1, q2, q3, hh0, sm, num_px, runG_un]
          refine ih (1 + 1) _ _ _ (by omega) ⟨by omega, by simp only [en, ↓reduceIte, Nat.reduceEqDiff, E0], by simp only [en, ↓reduceIte, Nat.reduceEqDiff, E1], by simp only [en, ↓reduceIte, Nat.reduceEqDiff, E6], by simp only [en, ↓reduceIte, Nat.reduceEqDiff, E8], by simp only [en, ↓reduceIte, Nat.reduceEqDiff, E12], by first | (simp only [en, ↓reduceIte, Nat.reduceEqDiff]; done) | (simp only [en, ↓reduceIte, Nat.reduceEqDiff]; rfl), rfl, by rw [q2, hh0]⟩
    · subst hP1
      subst hOF
      obtain ⟨tkX, ext, happ⟩ : ∃ (tkX : Heap → Tk) (ext : List AObj), ∀ H, appV 2 16 (.sl 2 1 [.int .u64 x.1, .int .u64 x.2] .e) (.sl zP P.length (encs pairA P) kP) H = some (.val (.sl 2 (P.length + 1) (encs pairA (x :: P)) (tkX H)), H ++ ext) := by
        cases P with
        | nil => exact ⟨fun _ => .e, [], fun H => by simp [appV, encs_nil, encs_cons, pairA]⟩
        | cons y r =>
          obtain rfl := hzP (by simp)
          have hl : (encs pairA (y :: r)).length = (y :: r).length * 2 := encs_length (f := pairA) (k := 2) _
          have h1 : allOne (encs pairA (y :: r)) = true := allOne_encs (fun _ => rfl) _
          have hr : r.length ≤ 100 := by have := hRc; simp only [List.length_cons] at this; omega
          refine ⟨fun H => .own H.length, [.tok 2], fun H => ?_⟩
          have e2 : (encs pairA (y :: r)).take ((y :: r).length * 2) = encs pairA (y :: r) := List.take_of_length_le (by omega)
          have e3 : encs pairA (x :: y :: r) = .int .u64 x.1 :: .int .u64 x.2 :: encs pairA (y :: r) := by rw [encs_cons]; rfl
          rw [e3]
          generalize encs pairA (y :: r) = Y at *
          have c1 : (1 + (y :: r).length) * 16 ≤ 70368744177664 := by simp only [List.length_cons]; omega
          have c2 : 1 + (y :: r).length ≤ 70368744177664 := by simp only [List.length_cons]; omega
          have c3 : ¬ (y :: r).length = 0 := by simp
          simp only [appV, c1, c2, c3, e2, h1, hl, if_false, if_true, and_self, true_and, Nat.le_refl, Nat.zero_lt_succ, List.length_cons, List.length_nil, List.cons_append, List.nil_append, Nat.add_comm 1]
          have e2' : List.take ((r.length + 1) * 2) Y = Y := e2
          simp
          exact ⟨⟨by omega, by omega⟩, by rw [e2']; exact h1, e2'⟩
      have sm0 := fun tk1 tk2 H => pcx_N (H := H) rfl (samePairs_pc (x :: P) (x :: P) 2 2 tk1 tk2 (fun _ => rfl) (fun _ => rfl) (by simp only [List.length_cons]; omega))
      rw [show (x :: P).length = P.length + 1 from rfl] at sm0 E13
      generalize encs pairA (x :: P) = XB at *
      have p0 : (H1 ++ ext)[0]? = H1[0]? := List.getElem?_append_left (List.getElem?_eq_some_iff.1 hh0).1
      have p1 : (H1 ++ ext)[1]? = H1[1]? := List.getElem?_append_left (List.getElem?_eq_some_iff.1 hh1).1
      simp (disch := omega) only [wk, avalE, aactE, evPE, boundE, asNat, bv_seql cellsEq_ii, bv_sneqd cellsEq_ii, readC, allOne, fillL, resE, tupled, ↓reduceIte, Nat.reduceEqDiff, Int.reduceEq, Int.reduceLT, Int.reduceLE, Nat.reduceAdd, Nat.reduceMul, Nat.reduceLT, Nat.reduceLeDiff, reduceCtorEq, E0, E1, E6, E8, E10, E12, E13, E14, hh0, hh1, p0, p1, sP, nl, sm0, hm0, happ, runG_un]
      refine loop_ind (fun (k : Nat) E df H2 => k ≤ P.length + 3 ∧ E 0 = .sl 1 64 (wordsA h ps []) u1 ∧ E 1 = .int .i64 to ∧ E 6 = .sl 2 (P.length + 2) (encs putA LS) kl ∧ E 8 = .ptr 0 0 ∧ E 12 = .sl 2 A.length (encs pairA A) (.own g12) ∧ E 16 = .int .i64 (k : Nat) ∧ df = [] ∧
          H2[0]? = some (.cells [.int .i64 (h.m - nmark), .int .i64 h.s, .int .u64 h.l, .int .u64 h.f, .int .i64 h.y, .sl 2 R.length (encs pairA R) kR]))
        (fun k => P.length + 3 - k) 0 (by decide) (.inl rfl) ⟨by omega, by simp only [en, ↓reduceIte, Nat.reduceEqDiff, E0], by simp only [en, ↓reduceIte, Nat.reduceEqDiff, E1], by simp only [en, ↓reduceIte, Nat.reduceEqDiff, E6], by simp only [en, ↓reduceIte, Nat.reduceEqDiff, E8], by simp only [en, ↓reduceIte, Nat.reduceEqDiff, E12], by simp only [en, ↓reduceIte, Nat.reduceEqDiff]; rfl, rfl, by rw [p0]; exact hh0⟩ ?_
      intro k E df H2 ih hP
      obtain ⟨hkl, E0, E1, E6, E8, E12, E16, hdf, hh0⟩ := hP
      subst hdf
      by_cases hle : k ≤ P.length + 2
      case neg =>
        simp (disch := omega) only [wk, avalE, aactE, evPE, boundE, asNat, bv_seql cellsEq_ii, bv_sneqd cellsEq_ii, readC, allOne, fillL, resE, tupled, ↓reduceIte, Nat.reduceEqDiff, Int.reduceEq, Int.reduceLT, Int.reduceLE, Nat.reduceAdd, Nat.reduceMul, Nat.reduceLT, Nat.reduceLeDiff, reduceCtorEq, E0, E1, E6, E8, E12, E16, hle, works_px, purify, unownT, lend, unown, AV.hf]
      obtain ⟨wh, wp, ap, of⟩ := hk k hle
      generalize wordsA wh wp [] = WK at *
      have q1 : ∀ o : AObj, (H2 ++ [o])[H2.length]? = some o := fun o => by simp
      have q2 : ∀ o : AObj, (H2 ++ [o])[0]? = H2[0]? := fun o => List.getElem?_append_left (by have := (List.getElem?_eq_some_iff.1 hh0).1; exact this)
      have q3 : ∀ o q : AObj, (H2 ++ [o]).set H2.length q = H2 ++ [q] := fun o q => by simp
      by_cases hk2 : 2 ≤ k
      · -- some pairs are struck
        have hTl : (R.take (R.length + 1 - k)).length = R.length + 1 - k := by rw [List.length_take]; omega
        have hne : R.take (R.length + 1 - k) ≠ [] := fun e => by rw [e] at hTl; simp at hTl; omega
        have hk0 : ¬ k = 0 := by omega
        have sT : slvR 2 pairA (R.take (R.length + 1 - k)) = .sl 2 (R.length + 1 - k) (encs pairA (R.take (R.length + 1 - k))) .ro := by
          unfold slvR
          rw [if_neg (by simpa using hne), hTl]
        have sO := slvR_one (sz := 2) (f := pairA) (R.take (R.length + 1 - k))
        rw [sT] at of sO
        have sm := fun tk1 tk2 H => pcx_N (H := H) rfl (samePairs2_pc (R.take (R.length + 1 - k)) (R.take (R.length + 1 - k)) (encs pairA (R.drop (R.length + 1 - k))) (hf_pairA _) 2 2 tk1 tk2 (fun _ => rfl) (fun _ => rfl) (by omega))
        rw [← encs_append, List.take_append_drop, hTl] at sm
        simp only [hk0, if_false] at of
        have hc1 : A.length ≤ R.length + 1 - k := by omega
        have hc2 : R.length + 1 - k < R.length := by omega
        have hcN : k = P.length + 2 → R.length + 1 - k = A.length := by omega
        generalize encs pairA (R.take (R.length + 1 - k)) = TC at *
        generalize R.length + 1 - k = c at *
        by_cases hkN : k = P.length + 2
        · have hcA := hcN hkN
          subst hkN hcA
          simp (disch := omega) only [wk, avalE, aactE, evPE, boundE, asNat, bv_seql cellsEq_ii, bv_sneqd cellsEq_ii, readC, allOne, fillL, resE, tupled, ↓reduceIte, Nat.reduceEqDiff, Int.reduceEq, Int.reduceLT, Int.reduceLE, Nat.reduceAdd, Nat.reduceMul, Nat.reduceLT, Nat.reduceLeDiff, reduceCtorEq, E0, E1, E6, E8, E12, E16, ap, of, sO, q1, q2, q3, hh0, sm, num_px, runG_un]
          refine ih ((P.length + 2) + 1) _ _ _ (by omega) ⟨by omega, by simp only [en, ↓reduceIte, Nat.reduceEqDiff, E0], by simp only [en, ↓reduceIte, Nat.reduceEqDiff, E1], by simp only [en, ↓reduceIte, Nat.reduceEqDiff, E6], by simp only [en, ↓reduceIte, Nat.reduceEqDiff, E8], by simp only [en, ↓reduceIte, Nat.reduceEqDiff, E12], by simp only [en, ↓reduceIte, Nat.reduceEqDiff], rfl, by rw [q2, hh0]⟩
        · have hkN' : ¬ (k : Int) = (P.length : Int) + 2 := by omega
          simp (disch := omega) only [wk, avalE, aactE, evPE, boundE, asNat, bv_seql cellsEq_ii, bv_sneqd cellsEq_ii, readC, allOne, fillL, resE, tupled, ↓reduceIte, Nat.reduceEqDiff, Int.reduceEq, Int.reduceLT, Int.reduceLE, Nat.reduceAdd, Nat.reduceMul, Nat.reduceLT, Nat.reduceLeDiff, reduceCtorEq, E0, E1, E6, E8, E12, E16, ap, of, sO, q1, q2, q3, hh0, sm, num_px, runG_un, hkN']
          refine ih (k + 1) _ _ _ (by omega) ⟨by omega, by simp only [en, ↓reduceIte, Nat.reduceEqDiff, E0], by simp only [en, ↓reduceIte, Nat.reduceEqDiff, E1], by simp only [en, ↓reduceIte, Nat.reduceEqDiff, E6], by simp only [en, ↓reduceIte, Nat.reduceEqDiff, E8], by simp only [en, ↓reduceIte, Nat.reduceEqDiff, E12], by simp only [en, ↓reduceIte, Nat.reduceEqDiff], rfl, by rw [q2, hh0]⟩
      · have hTr : R.take (R.length + 1 - k) = R := List.take_of_length_le (by omega)
        rw [hTr, eR] at of
        have sm := fun tk1 tk2 H => pcx_N (H := H) rfl (samePairs2_pc R R [] rfl 2 2 tk1 tk2 (fun _ => rfl) (fun _ => rfl) (by omega))
        rw [List.append_nil] at sm
        have hc1 : A.length ≤ R.length := by omega
        by_cases hk0 : k = 0
        · subst hk0
          simp only [if_true] at of
          simp (disch := omega) only [wk, avalE, aactE, evPE, boundE, asNat, bv_seql cellsEq_ii, bv_sneqd cellsEq_ii, readC, allOne, fillL, resE, tupled, ↓reduceIte, Nat.reduceEqDiff, Int.reduceEq, Int.reduceLT, Int.reduceLE, Nat.reduceAdd, Nat.reduceMul, Nat.reduceLT, Nat.reduceLeDiff, reduceCtorEq, E0, E1, E6, E8, E12, E16, ap, of, sR, q1, q2, q3, hh0, sm, num_px, runG_un]
          refine ih (0 + 1) _ _ _ (by omega) ⟨by omega, by simp only [en, ↓reduceIte, Nat.reduceEqDiff, E0], by simp only [en, ↓reduceIte, Nat.reduceEqDiff, E1], by simp only [en, ↓reduceIte, Nat.reduceEqDiff, E6], by simp only [en, ↓reduceIte, Nat.reduceEqDiff, E8], by simp only [en, ↓reduceIte, Nat.reduceEqDiff, E12], by simp only [en, ↓reduceIte, Nat.reduceEqDiff], rfl, by rw [q2, hh0]⟩
        · obtain rfl : k = 1 := by omega
          rw [show ((1 : Nat) : Int) = 1 from rfl] at E16
          simp only [hk0, if_false] at of
          simp (disch := omega) only [wk, avalE, aactE, evPE, boundE, asNat, bv_seql cellsEq_ii, bv_sneqd cellsEq_ii, readC, allOne, fillL, resE, tupled, ↓reduceIte, Nat.reduceEqDiff, Int.reduceEq, Int.reduceLT, Int.reduceLE, Nat.reduceAdd, Nat.reduceMul, Nat.reduceLT, Nat.reduceLeDiff, reduceCtorEq, Int.reduceToNat, Int.reduceAdd, Int.reduceSub, Int.reduceMul, Int.reduceNeg, Nat.reduceSub, Nat.reduceDiv, E0, E1, E6, E8, E12, E16, ap, of, sR, q1, q2, q3, hh0, sm, num_px, runG_un]
          refine ih (1 + 1) _ _ _ (by omega) ⟨by omega, by simp only [en, ↓reduceIte, Nat.reduceEqDiff, E0], by simp only [en, ↓reduceIte, Nat.reduceEqDiff, E1], by simp only [en, ↓reduceIte, Nat.reduceEqDiff, E6], by simp only [en, ↓reduceIte, Nat.reduceEqDiff, E8], by simp only [en, ↓reduceIte, Nat.reduceEqDiff, E12], by first | (simp only [en, ↓reduceIte, Nat.reduceEqDiff]; done) | (simp only [en, ↓reduceIte, Nat.reduceEqDiff]; rfl), rfl, by rw [q2, hh0]⟩
end Go.Proofs.Ytailfegmnkldoaa
