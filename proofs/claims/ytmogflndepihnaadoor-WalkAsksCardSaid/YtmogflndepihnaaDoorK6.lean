/- THE WALK OF THE DOCUMENT'S Parts. No condition but those stated. -/
import Derived.Test.YtmogflndepihnaaDoorK5
set_option linter.unusedSimpArgs false
set_option linter.unusedVariables false
set_option linter.unusedSectionVars false
namespace Go.Proofs.YtmogflndepihnaaDoor
open Go Go.Am Go.Rec Go.Nam
set_option maxHeartbeats 4000000
set_option maxRecDepth 10000
def rpartsV (l : List UInt8) : AV := .tup [slvR 1 strA (partsM l), .int .i64 (partsE l)]
theorem purify_strs {H : Heap} {v : AV} {l : List (List UInt8)} (h : Own H 1 v l.length (encs strA l)) (hne : ∀ s n c, v ≠ .sl s n c .e) : purify (some (.ret (.tup [v, .int .i64 0]), H)) = some (.plain (.tup [slvR 1 strA l, .int .i64 0])) := by
  rcases h with ⟨hx, h1, h2⟩ | ⟨h1, g, rfl, hg⟩
  · have hl : l = [] := List.length_eq_zero_iff.1 h1
    subst hl
    rcases hx with rfl | rfl
    · rfl
    · exact absurd rfl (hne _ _ _)
  · have hl : l.isEmpty = false := by cases l with
      | nil => exact absurd rfl h1
      | cons _ _ => rfl
    have e : slvR 1 strA l = .sl 1 l.length (encs strA l) .ro := by
      unfold slvR
      rw [hl]; rfl
    rw [e]
    have h : (unownT (.tup [.sl 1 l.length (encs strA l) (.own g), .int .i64 0])).hf = true := by
      simp [unownT, unown, AV.hf, hfL, hf_strA, Tk.hf]
    show (if (unownT (.tup [.sl 1 l.length (encs strA l) (.own g), .int .i64 0])).hf then some (PR.plain (unownT (.tup [.sl 1 l.length (encs strA l) (.own g), .int .i64 0]))) else none) = _
    rw [if_pos h]; rfl
theorem byte_eq (b c : UInt8) : ((b.toNat : Nat) : Int) = ((c.toNat : Nat) : Int) ↔ b = c := by
  constructor
  · intro h
    exact UInt8.toNat_inj.1 (by omega)
  · intro h; rw [h]
def wideA (ks : List (List UInt8)) : Bool := ks.any fun x => decide (120 < x.length)
theorem rparts_px (l : List UInt8) (hn : l.length ≤ 5000) (H : Heap) : pcx (cbL tab) 19 [.str (bs l)] H = some (.plain (rpartsV l)) := by
  refine pcx_N rfl (pc_wp (fi := c19) rfl rfl (by simp [c19]) (by decide) ?_)
  unfold c19
  rw [List.map_cons, List.map_nil, lend_str]
  unfold rpartsV partsM partsE
  by_cases h1 : 1000 < l.length
  · have h1' : (1000 : Int) < (l.length : Nat) := by omega
    have e3 : ¬ (3 : Int) = 0 := by decide
    have sv : slvR 1 strA ([] : List (List UInt8)) = .sl 0 0 [] .z := rfl
    simp (disch := omega) only [wk, avalE, aactE, evPE, boundE, asNat, bv_seql cellsEq_ii, bv_sneqd cellsEq_ii, readC, allOne, fillL, resE, tupled, ↓reduceIte, Nat.reduceEqDiff, Int.reduceEq, Int.reduceLT, Int.reduceLE, Nat.reduceAdd, Nat.reduceMul, Nat.reduceLT, Nat.reduceLeDiff, reduceCtorEq, bs_size, h1, h1', e3, sv, purify, unownT, unown, AV.hf, hfL, Tk.hf]
  have h1' : ¬ (1000 : Int) < (l.length : Nat) := by omega
  have sv : slvR 1 strA ([] : List (List UInt8)) = .sl 0 0 [] .z := rfl
  have e140 : ¬ (140 : Int) = 0 := by decide
  have e141 : ¬ (141 : Int) = 0 := by decide
  have b47 : ((UInt8.toNat 47 : Nat) : Int) = 47 := rfl
  have b0 : ((UInt8.toNat 0 : Nat) : Int) = 0 := rfl
  rw [if_neg h1]
  by_cases hh : l.head? = some 47
  case neg =>
    have hx : ¬ (l.head? = some 47 ∧ 0 ∉ l) := fun h => hh h.1
    rw [if_neg hx]
    clear hx
    cases l with
    | nil =>
      have ke : (([] : List UInt8) == []) = true := rfl
      simp (disch := omega) only [wk, avalE, aactE, evPE, boundE, asNat, bv_seql cellsEq_ii, bv_sneqd cellsEq_ii, readC, allOne, fillL, resE, tupled, ↓reduceIte, Nat.reduceEqDiff, Int.reduceEq, Int.reduceLT, Int.reduceLE, Nat.reduceAdd, Nat.reduceMul, Nat.reduceLT, Nat.reduceLeDiff, reduceCtorEq, bs_size, h1', e140, sv, bv_streq, k0, bs_toList, ke, purify, unownT, unown, AV.hf, hfL, Tk.hf]
    | cons b r =>
      have ke : ((b :: r : List UInt8) == []) = false := rfl
      have i0 : (0 : Int).toNat = 0 := rfl
      have hb : ¬ ((b.toNat : Nat) : Int) = 47 := by
        rw [← b47, byte_eq]
        intro e; subst e; exact hh rfl
      simp only [List.length_cons] at h1'
      have h1'' : ¬ (1000 : Int) < (r.length : Nat) + 1 := by omega
      simp (disch := omega) only [wk, avalE, aactE, evPE, boundE, asNat, bv_seql cellsEq_ii, bv_sneqd cellsEq_ii, readC, allOne, fillL, resE, tupled, ↓reduceIte, Nat.reduceEqDiff, Int.reduceEq, Int.reduceLT, Int.reduceLE, Nat.reduceAdd, Nat.reduceMul, Nat.reduceLT, Nat.reduceLeDiff, reduceCtorEq, bs_size, h1'', e140, sv, bv_streq, k0, bs_toList, ke, bs_get, i0, hb, Option.map_some, purify, unownT, unown, AV.hf, hfL, Tk.hf]
  obtain ⟨l', hl'⟩ : ∃ l', l = 47 :: l' := by
    cases l with
    | nil => cases hh
    | cons b r => simp only [List.head?_cons, Option.some.injEq] at hh; subst hh; exact ⟨r, rfl⟩
  have ke : (l == []) = false := by rw [hl']; rfl
  have g0 : l[0]? = some 47 := by rw [hl']; rfl
  have i0 : (0 : Int).toNat = 0 := rfl
  have e00 : ((0 : Nat) : Int) = 0 := rfl
  simp (disch := omega) only [wk, avalE, aactE, evPE, boundE, asNat, bv_seql cellsEq_ii, bv_sneqd cellsEq_ii, readC, allOne, fillL, resE, tupled, ↓reduceIte, Nat.reduceEqDiff, Int.reduceEq, Int.reduceLT, Int.reduceLE, Nat.reduceAdd, Nat.reduceMul, Nat.reduceLT, Nat.reduceLeDiff, reduceCtorEq, bs_size, h1', bv_streq, k0, bs_toList, ke, bs_get, i0, g0, b47, Option.map_some]
  have hres : (if (if l.head? = some 47 ∧ 0 ∉ l then (if wideP l = true then 141 else 0) else 140) = (0 : Int) then cutP l else []) = if 0 ∉ l ∧ wideP l = false then cutP l else [] := by
    by_cases h0 : 0 ∈ l <;> cases hw : wideP l <;> simp [h0, hh]
  have hcode : (if l.head? = some 47 ∧ 0 ∉ l then (if wideP l = true then 141 else 0) else 140) = if 0 ∈ l then (140 : Int) else if wideP l = true then 141 else 0 := by
    by_cases h0 : 0 ∈ l
    · rw [if_neg (fun h => h.2 h0), if_pos h0]
    · rw [if_pos ⟨hh, h0⟩, if_neg h0]
  rw [hres, hcode]
  clear hres hcode
  refine loop_ind (fun (x : List UInt8 × List UInt8 × List UInt8 × List (List UInt8)) E df H' => l = x.1 ++ x.2.1 ++ x.2.2.1 ∧ cutP l = x.2.2.2 ++ keepP (splS x.2.1 x.2.2.1) ∧ 0 ∉ x.1 ++ x.2.1 ∧ x.2.2.2.length ≤ x.1.length ∧ E 0 = .str (bs l) ∧ Own H' 1 (E 4) x.2.2.2.length (encs strA x.2.2.2) ∧ (∀ s n c, E 4 ≠ .sl s n c .e) ∧
      E 5 = .int .i64 (x.1.length : Nat) ∧ E 6 = .bool (wideA x.2.2.2) ∧ E 7 = .int .i64 (((x.1 ++ x.2.1).length : Nat) : Int) ∧ df = [])
    (fun x => x.2.2.1.length) ([], [], l, []) (by decide) (.inl rfl) ⟨rfl, by rw [List.nil_append]; rfl, by simp, Nat.le_refl _, rfl, .inl ⟨.inl rfl, rfl, rfl⟩, (by intro s n c h; cases h), rfl, rfl, rfl, rfl⟩ ?_
  intro ⟨pre, cur, suf, out⟩ E df H1 ih hP
  obtain ⟨a1, a2, a3, a4, E0, ho, hne, E5, E6, E7, hdf⟩ := hP
  dsimp only at a1 a2 a3 a4 ho E5 E6 E7
  subst hdf
  have hl : l.length = (pre ++ cur).length + suf.length := by rw [a1, List.length_append]
  have hpc : (pre ++ cur).length = pre.length + cur.length := List.length_append
  obtain ⟨k, hk⟩ : ∃ k, k = (pre ++ cur).length := ⟨_, rfl⟩
  rw [← hk] at E7 hl hpc
  have wa : ∀ x, wideA (out ++ [x]) = (wideA out || decide (120 < x.length)) := fun x => by simp [wideA]
  have ex : cur ≠ [] → (bs l).extract pre.length k = bs cur := fun _ => by
    rw [bs_extract, a1, List.append_assoc, List.drop_left, hpc, Nat.add_sub_cancel_left, List.take_left]
  have kle : pre.length ≤ k := by omega
  have ksz : k ≤ (bs l).size := by rw [bs_size]; omega
  have hd : decide ((120 : Int) < (k : Int) - (pre.length : Nat)) = decide (120 < cur.length) := by congr 1; simp only [eq_iff_iff]; omega
  have kn1 : Int.toNat ((k : Nat) : Int) = k := Int.toNat_natCast _
  cases suf with
  | nil =>
    have hkl : k = l.length := by simp at hl; omega
    subst hkl
    have hlt : ¬ ((l.length : Nat) : Int) < ((l.length : Nat) : Int) := by omega
    have hle : ((l.length : Nat) : Int) ≤ ((l.length : Nat) : Int) := by omega
    have hnle : ¬ ((l.length : Nat) : Int) + 1 ≤ ((l.length : Nat) : Int) := by omega
    have h0 : 0 ∉ l := by rw [a1, List.append_nil]; exact a3
    rw [splS] at a2
    have hif : ∀ w, wideP l = w → (if 0 ∈ l then (140 : Int) else if wideP l = true then 141 else 0) = if w = true then 141 else 0 := by
      intro w hw; rw [if_neg h0, hw]
    have hwp : wideP l = wideA (out ++ keepP [cur]) := by rw [wideP, a2]; rfl
    rw [if_neg h0]
    by_cases hc : cur = []
    · have hkp : keepP [cur] = [] := by rw [hc]; rfl
      rw [hkp, List.append_nil] at a2 hwp
      have ngt : ¬ ((pre.length : Nat) : Int) < ((l.length : Nat) : Int) := by rw [hc] at hpc; simp at hpc; omega
      simp (disch := omega) only [wk, avalE, aactE, evPE, boundE, asNat, bv_seql cellsEq_ii, bv_sneqd cellsEq_ii, readC, allOne, fillL, resE, tupled, ↓reduceIte, Nat.reduceEqDiff, Int.reduceEq, Int.reduceLT, Int.reduceLE, Nat.reduceAdd, Nat.reduceMul, Nat.reduceLT, Nat.reduceLeDiff, reduceCtorEq, E0, E5, E6, E7, bs_size, hlt, hle, ngt]
      refine ret_again (by decide) (.inl rfl) ?_
      rw [ret_loop]
      rw [hwp, a2]
      cases hw : wideA out with
      | true =>
        rw [hw] at E6
        have hx : ¬ (0 ∉ l ∧ true = false) := fun h => by cases h.2
        simp (disch := omega) only [wk, avalE, aactE, evPE, boundE, asNat, bv_seql cellsEq_ii, bv_sneqd cellsEq_ii, readC, allOne, fillL, resE, tupled, ↓reduceIte, Nat.reduceEqDiff, Int.reduceEq, Int.reduceLT, Int.reduceLE, Nat.reduceAdd, Nat.reduceMul, Nat.reduceLT, Nat.reduceLeDiff, reduceCtorEq, E0, E5, E6, E7, bs_size, hnle, h0, hx, sv, purify, unownT, unown, AV.hf, hfL, Tk.hf]
      | false =>
        rw [hw] at E6
        have hx : (0 ∉ l ∧ false = false) := ⟨h0, rfl⟩
        simp (disch := omega) only [wk, avalE, aactE, evPE, boundE, asNat, bv_seql cellsEq_ii, bv_sneqd cellsEq_ii, readC, allOne, fillL, resE, tupled, ↓reduceIte, Nat.reduceEqDiff, Int.reduceEq, Int.reduceLT, Int.reduceLE, Nat.reduceAdd, Nat.reduceMul, Nat.reduceLT, Nat.reduceLeDiff, reduceCtorEq, E0, E5, E6, E7, bs_size, hnle, h0, hx, purify_strs ho hne]
    · have hkp : keepP [cur] = [cur] := by unfold keepP; rw [List.filter_cons_of_pos (by cases cur; contradiction; rfl)]; rfl
      rw [hkp] at a2 hwp
      have gt : ((pre.length : Nat) : Int) < ((l.length : Nat) : Int) := by
        have : cur.length ≠ 0 := fun e => hc (List.eq_nil_of_length_eq_zero e)
        omega
      simp (disch := omega) only [wk, avalE, aactE, evPE, boundE, asNat, bv_seql cellsEq_ii, bv_sneqd cellsEq_ii, readC, allOne, fillL, resE, tupled, ↓reduceIte, Nat.reduceEqDiff, Int.reduceEq, Int.reduceLT, Int.reduceLE, Nat.reduceAdd, Nat.reduceMul, Nat.reduceLT, Nat.reduceLeDiff, reduceCtorEq, E0, E5, E6, E7, bs_size, hlt, hle, gt, ex hc, kle, ksz]
      refine runX_app ho (by omega) (by omega) (by omega) (by omega) rfl rfl (fun H2 q1 q2 q3 => ?_)
      have ee : encs strA out ++ [AV.str (bs cur)] = encs strA (out ++ [cur]) := by rw [encs_append]; rfl
      have el : out.length + 1 = (out ++ [cur]).length := by simp
      rw [ee, el] at q1
      rw [ee, el, hwp, a2, wa]
      generalize hout : out ++ [cur] = o2 at *
      have hne2 : ∀ s n c, AV.sl 1 o2.length (encs strA o2) (.own H1.length) ≠ .sl s n c .e := fun s n c h => by cases h
      cases hw : wideA out with
      | true =>
        rw [hw] at E6
        have hx : ¬ (0 ∉ l ∧ true = false) := fun h => by cases h.2
        simp (disch := omega) only [wk, avalE, aactE, evPE, boundE, asNat, bv_seql cellsEq_ii, bv_sneqd cellsEq_ii, readC, allOne, fillL, resE, tupled, ↓reduceIte, Nat.reduceEqDiff, Int.reduceEq, Int.reduceLT, Int.reduceLE, Nat.reduceAdd, Nat.reduceMul, Nat.reduceLT, Nat.reduceLeDiff, reduceCtorEq, E0, E5, E6, E7]
        refine ret_again (by decide) (.inl rfl) ?_
        rw [ret_loop]
        simp (disch := omega) only [wk, avalE, aactE, evPE, boundE, asNat, bv_seql cellsEq_ii, bv_sneqd cellsEq_ii, readC, allOne, fillL, resE, tupled, ↓reduceIte, Nat.reduceEqDiff, Int.reduceEq, Int.reduceLT, Int.reduceLE, Nat.reduceAdd, Nat.reduceMul, Nat.reduceLT, Nat.reduceLeDiff, reduceCtorEq, E0, E5, E6, E7, bs_size, hnle, h0, hx, Bool.true_or, sv, purify, unownT, unown, AV.hf, hfL, Tk.hf]
      | false =>
        rw [hw] at E6
        have hwd := hd
        cases hdc : decide (120 < cur.length) with
        | true =>
          rw [hdc] at hwd
          have hx : ¬ (0 ∉ l ∧ true = false) := fun h => by cases h.2
          simp (disch := omega) only [wk, avalE, aactE, evPE, boundE, asNat, bv_seql cellsEq_ii, bv_sneqd cellsEq_ii, readC, allOne, fillL, resE, tupled, ↓reduceIte, Nat.reduceEqDiff, Int.reduceEq, Int.reduceLT, Int.reduceLE, Nat.reduceAdd, Nat.reduceMul, Nat.reduceLT, Nat.reduceLeDiff, reduceCtorEq, E0, E5, E6, E7, hwd]
          refine ret_again (by decide) (.inl rfl) ?_
          rw [ret_loop]
          simp (disch := omega) only [wk, avalE, aactE, evPE, boundE, asNat, bv_seql cellsEq_ii, bv_sneqd cellsEq_ii, readC, allOne, fillL, resE, tupled, ↓reduceIte, Nat.reduceEqDiff, Int.reduceEq, Int.reduceLT, Int.reduceLE, Nat.reduceAdd, Nat.reduceMul, Nat.reduceLT, Nat.reduceLeDiff, reduceCtorEq, E0, E5, E6, E7, bs_size, hnle, h0, hx, Bool.false_or, sv, purify, unownT, unown, AV.hf, hfL, Tk.hf]
        | false =>
          rw [hdc] at hwd
          have hx : (0 ∉ l ∧ false = false) := ⟨h0, rfl⟩
          simp (disch := omega) only [wk, avalE, aactE, evPE, boundE, asNat, bv_seql cellsEq_ii, bv_sneqd cellsEq_ii, readC, allOne, fillL, resE, tupled, ↓reduceIte, Nat.reduceEqDiff, Int.reduceEq, Int.reduceLT, Int.reduceLE, Nat.reduceAdd, Nat.reduceMul, Nat.reduceLT, Nat.reduceLeDiff, reduceCtorEq, E0, E5, E6, E7, hwd]
          refine ret_again (by decide) (.inl rfl) ?_
          rw [ret_loop]
          simp (disch := omega) only [wk, avalE, aactE, evPE, boundE, asNat, bv_seql cellsEq_ii, bv_sneqd cellsEq_ii, readC, allOne, fillL, resE, tupled, ↓reduceIte, Nat.reduceEqDiff, Int.reduceEq, Int.reduceLT, Int.reduceLE, Nat.reduceAdd, Nat.reduceMul, Nat.reduceLT, Nat.reduceLeDiff, reduceCtorEq, E0, E5, E6, E7, bs_size, hnle, h0, hx, Bool.or_self, purify_strs q1 hne2]
  | cons b r =>
    simp only [List.length_cons] at hl
    have hlt : ((k : Nat) : Int) < ((l.length : Nat) : Int) := by omega
    have hneq : ¬ ((k : Nat) : Int) = ((l.length : Nat) : Int) := by omega
    have hle : ((k : Nat) : Int) ≤ ((l.length : Nat) : Int) := by omega
    have gb : l[k]? = some b := by rw [a1, hk, List.getElem?_append_right (Nat.le_refl _), Nat.sub_self]; rfl
    by_cases hb0 : b = 0
    · have hi0 : ((b.toNat : Nat) : Int) = 0 := by rw [hb0]; rfl
      have h0 : 0 ∈ l := by rw [a1, hb0]; simp
      rw [if_pos h0, if_neg (fun h => h.1 h0)]
      simp (disch := omega) only [wk, avalE, aactE, evPE, boundE, asNat, bv_seql cellsEq_ii, bv_sneqd cellsEq_ii, readC, allOne, fillL, resE, tupled, ↓reduceIte, Nat.reduceEqDiff, Int.reduceEq, Int.reduceLT, Int.reduceLE, Nat.reduceAdd, Nat.reduceMul, Nat.reduceLT, Nat.reduceLeDiff, reduceCtorEq, E0, E5, E6, E7, bs_size, hlt, hle, bs_get, gb, hi0, kn1, Option.map_some, sv, purify, unownT, unown, AV.hf, hfL, Tk.hf]
    have hi0 : ¬ ((b.toNat : Nat) : Int) = 0 := by rw [← b0, byte_eq]; exact hb0
    by_cases hb : b = 47
    · have hi : ((b.toNat : Nat) : Int) = 47 := by rw [hb]; rfl
      have hi00 : ¬ (47 : Int) = 0 := by decide
      have hs : splS cur (b :: r) = cur :: splS [] r := by rw [splS, if_pos hb]
      rw [hs] at a2
      have hkc : keepP (cur :: splS [] r) = keepP [cur] ++ keepP (splS [] r) := List.filter_append (l₁ := [cur]) _
      rw [hkc, ← List.append_assoc] at a2
      have hp2 : (pre ++ cur ++ [b]).length = k + 1 := by rw [List.length_append, ← hk]; rfl
      have hnz : 0 ∉ pre ++ cur ++ [b] := by
        intro h
        rcases List.mem_append.1 h with h | h
        · exact a3 h
        · simp only [List.mem_singleton] at h; exact hb0 h.symm
      by_cases hc : cur = []
      · have hkp : keepP [cur] = [] := by rw [hc]; rfl
        rw [hkp, List.append_nil] at a2
        have ngt : ¬ ((pre.length : Nat) : Int) < ((k : Nat) : Int) := by rw [hc] at hpc; simp at hpc; omega
        simp (disch := omega) only [wk, avalE, aactE, evPE, boundE, asNat, bv_seql cellsEq_ii, bv_sneqd cellsEq_ii, readC, allOne, fillL, resE, tupled, ↓reduceIte, Nat.reduceEqDiff, Int.reduceEq, Int.reduceLT, Int.reduceLE, Nat.reduceAdd, Nat.reduceMul, Nat.reduceLT, Nat.reduceLeDiff, reduceCtorEq, E0, E5, E6, E7, bs_size, hlt, hle, hneq, bs_get, gb, hi, hi00, kn1, Option.map_some, ngt]
        refine ih (pre ++ cur ++ [b], [], r, out) _ _ _ (by dsimp only; simp) ?_
        refine ⟨by rw [a1]; simp, a2, by simpa using hnz, by dsimp only; omega, by simp only [en, ↓reduceIte, Nat.reduceEqDiff, E0], by simp only [en, ↓reduceIte, Nat.reduceEqDiff]; exact ho, by simp only [en, ↓reduceIte, Nat.reduceEqDiff]; exact hne, by dsimp only; rw [hp2]; simp only [en, ↓reduceIte, Nat.reduceEqDiff], by simp only [en, ↓reduceIte, Nat.reduceEqDiff, E6], by dsimp only; rw [List.append_nil, hp2]; simp only [en, ↓reduceIte, Nat.reduceEqDiff], rfl⟩
      · have hkp : keepP [cur] = [cur] := by unfold keepP; rw [List.filter_cons_of_pos (by cases cur; contradiction; rfl)]; rfl
        rw [hkp] at a2
        have gt : ((pre.length : Nat) : Int) < ((k : Nat) : Int) := by
          have : cur.length ≠ 0 := fun e => hc (List.eq_nil_of_length_eq_zero e)
          omega
        simp (disch := omega) only [wk, avalE, aactE, evPE, boundE, asNat, bv_seql cellsEq_ii, bv_sneqd cellsEq_ii, readC, allOne, fillL, resE, tupled, ↓reduceIte, Nat.reduceEqDiff, Int.reduceEq, Int.reduceLT, Int.reduceLE, Nat.reduceAdd, Nat.reduceMul, Nat.reduceLT, Nat.reduceLeDiff, reduceCtorEq, E0, E5, E6, E7, bs_size, hlt, hle, hneq, bs_get, gb, hi, hi00, kn1, Option.map_some, gt, ex hc, kle, ksz]
        refine runX_app ho (by omega) (by omega) (by omega) (by omega) rfl rfl (fun H2 q1 q2 q3 => ?_)
        have ee : encs strA out ++ [AV.str (bs cur)] = encs strA (out ++ [cur]) := by rw [encs_append]; rfl
        have el : out.length + 1 = (out ++ [cur]).length := by simp
        rw [ee, el] at q1
        rw [ee, el]
        have hww := wa cur
        have hol : (out ++ [cur]).length ≤ (pre ++ cur ++ [b]).length := by rw [hp2, List.length_append]; simp; omega
        generalize hout : out ++ [cur] = o2 at *
        have hne2 : ∀ s n c, AV.sl 1 o2.length (encs strA o2) (.own H1.length) ≠ .sl s n c .e := fun s n c h => by cases h
        cases hw : wideA out with
        | true =>
          rw [hw] at E6 hww
          simp (disch := omega) only [wk, avalE, aactE, evPE, boundE, asNat, bv_seql cellsEq_ii, bv_sneqd cellsEq_ii, readC, allOne, fillL, resE, tupled, ↓reduceIte, Nat.reduceEqDiff, Int.reduceEq, Int.reduceLT, Int.reduceLE, Nat.reduceAdd, Nat.reduceMul, Nat.reduceLT, Nat.reduceLeDiff, reduceCtorEq, E0, E5, E6, E7]
          refine ih (pre ++ cur ++ [b], [], r, o2) _ _ _ (by dsimp only; simp) ?_
          refine ⟨by rw [a1]; simp, a2, by simpa using hnz, hol, by simp only [en, ↓reduceIte, Nat.reduceEqDiff, E0], by simp only [en, ↓reduceIte, Nat.reduceEqDiff]; exact q1, by simp only [en, ↓reduceIte, Nat.reduceEqDiff]; exact hne2, by dsimp only; rw [hp2]; simp only [en, ↓reduceIte, Nat.reduceEqDiff], by dsimp only; rw [hww]; simp only [en, ↓reduceIte, Nat.reduceEqDiff, Bool.true_or], by dsimp only; rw [List.append_nil, hp2]; simp only [en, ↓reduceIte, Nat.reduceEqDiff], rfl⟩
        | false =>
          rw [hw] at E6 hww
          simp (disch := omega) only [wk, avalE, aactE, evPE, boundE, asNat, bv_seql cellsEq_ii, bv_sneqd cellsEq_ii, readC, allOne, fillL, resE, tupled, ↓reduceIte, Nat.reduceEqDiff, Int.reduceEq, Int.reduceLT, Int.reduceLE, Nat.reduceAdd, Nat.reduceMul, Nat.reduceLT, Nat.reduceLeDiff, reduceCtorEq, E0, E5, E6, E7, hd]
          refine ih (pre ++ cur ++ [b], [], r, o2) _ _ _ (by dsimp only; simp) ?_
          refine ⟨by rw [a1]; simp, a2, by simpa using hnz, hol, by simp only [en, ↓reduceIte, Nat.reduceEqDiff, E0], by simp only [en, ↓reduceIte, Nat.reduceEqDiff]; exact q1, by simp only [en, ↓reduceIte, Nat.reduceEqDiff]; exact hne2, by dsimp only; rw [hp2]; simp only [en, ↓reduceIte, Nat.reduceEqDiff], by dsimp only; rw [hww]; simp only [en, ↓reduceIte, Nat.reduceEqDiff, Bool.false_or], by dsimp only; rw [List.append_nil, hp2]; simp only [en, ↓reduceIte, Nat.reduceEqDiff], rfl⟩
    · have hi : ¬ ((b.toNat : Nat) : Int) = 47 := by rw [← b47, byte_eq]; exact hb
      have hs : splS cur (b :: r) = splS (cur ++ [b]) r := by rw [splS, if_neg hb]
      rw [hs] at a2
      have hp2 : (pre ++ (cur ++ [b])).length = k + 1 := by rw [← List.append_assoc, List.length_append, ← hk]; rfl
      have hnz : 0 ∉ pre ++ (cur ++ [b]) := by
        rw [← List.append_assoc]
        intro h
        rcases List.mem_append.1 h with h | h
        · exact a3 h
        · simp only [List.mem_singleton] at h; exact hb0 h.symm
      simp (disch := omega) only [wk, avalE, aactE, evPE, boundE, asNat, bv_seql cellsEq_ii, bv_sneqd cellsEq_ii, readC, allOne, fillL, resE, tupled, ↓reduceIte, Nat.reduceEqDiff, Int.reduceEq, Int.reduceLT, Int.reduceLE, Nat.reduceAdd, Nat.reduceMul, Nat.reduceLT, Nat.reduceLeDiff, reduceCtorEq, E0, E5, E6, E7, bs_size, hlt, hle, hneq, bs_get, gb, hi, hi0, kn1, Option.map_some]
      refine ih (pre, cur ++ [b], r, out) _ _ _ (by dsimp only; simp) ?_
      exact ⟨by rw [a1]; simp, a2, hnz, a4, by simp only [en, ↓reduceIte, Nat.reduceEqDiff, E0], by simp only [en, ↓reduceIte, Nat.reduceEqDiff]; exact ho, by simp only [en, ↓reduceIte, Nat.reduceEqDiff]; exact hne, by simp only [en, ↓reduceIte, Nat.reduceEqDiff, E5], by simp only [en, ↓reduceIte, Nat.reduceEqDiff, E6], by dsimp only; rw [hp2]; simp only [en, ↓reduceIte, Nat.reduceEqDiff], rfl⟩
end Go.Proofs.YtmogflndepihnaaDoor
