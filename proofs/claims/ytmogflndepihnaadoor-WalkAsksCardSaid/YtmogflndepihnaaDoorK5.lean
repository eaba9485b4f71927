/- THE WALK OF Parts. No condition but those stated. -/
import Derived.Test.YtmogflndepihnaaDoorK4
set_option linter.unusedSimpArgs false
set_option linter.unusedVariables false
set_option linter.unusedSectionVars false
namespace Go.Proofs.YtmogflndepihnaaDoor
open Go Go.Am Go.Rec Go.Nam
set_option maxHeartbeats 4000000
set_option maxRecDepth 10000
theorem headE (l : List UInt8) : (l.take 1 == [47]) = decide (l.head? = some 47) := by
  cases l with
  | nil => rfl
  | cons b r =>
    have : ((b :: r).take 1 == [47]) = (b == 47) := by simp [List.take_succ_cons]
    rw [this]
    by_cases h : b = 47 <;> simp [h]
theorem prefix_px (l : List UInt8) (H : Heap) : pcx (cbL tab) 54 [.str (bs l), .str slB] H = some (.plain (.bool (decide (l.head? = some 47)))) := by
  have key : ∀ H, pcx (cbL tab) 80 [.str (bs l), .str slB] H = some (.plain (.bool (decide (l.head? = some 47)))) := by
    intro H
    refine pcx_N rfl (pc_wp (fi := c80) rfl rfl (by simp [c80]) (by decide) ?_)
    unfold c80
    rw [List.map_cons, List.map_cons, List.map_nil, lend_str, lend_str]
    have z : (slB.size : Int) = 1 := rfl
    have ks : slB.toList = [47] := (ByteArray.toList_eq _).trans rfl
    have ex : (bs l).extract 0 1 = bs (l.take 1) := by rw [bs_extract]; simp
    have i1 : (1 : Int).toNat = 1 := rfl
    by_cases h : 1 ≤ l.length
    · have h' : (1 : Int) ≤ (l.length : Nat) := by omega
      simp (disch := omega) only [wk, avalE, aactE, evPE, boundE, asNat, bv_seql cellsEq_ii, bv_sneqd cellsEq_ii, readC, allOne, fillL, resE, tupled, ↓reduceIte, Nat.reduceEqDiff, Int.reduceEq, Int.reduceLT, Int.reduceLE, Nat.reduceAdd, Nat.reduceMul, Nat.reduceLT, Nat.reduceLeDiff, reduceCtorEq, z, ks, bs_size, ex, i1, h, h', bv_streq, bs_toList, headE, purify, unownT, AV.hf, Nat.zero_le]
    · have h' : ¬ (1 : Int) ≤ (l.length : Nat) := by omega
      have : l = [] := List.eq_nil_of_length_eq_zero (by omega)
      subst this
      have e : decide (([] : List UInt8).head? = some 47) = false := rfl
      have e2 : ([] : List UInt8).length = 0 := rfl
      have e3 : ¬ (1 : Int) ≤ ((0 : Nat) : Int) := by decide
      simp (disch := omega) only [wk, avalE, aactE, evPE, boundE, asNat, bv_seql cellsEq_ii, bv_sneqd cellsEq_ii, readC, allOne, fillL, resE, tupled, ↓reduceIte, Nat.reduceEqDiff, Int.reduceEq, Int.reduceLT, Int.reduceLE, Nat.reduceAdd, Nat.reduceMul, Nat.reduceLT, Nat.reduceLeDiff, reduceCtorEq, z, ks, bs_size, e2, e3, e, purify, unownT, AV.hf]
  refine pcx_N rfl (pc_wp (fi := c54) rfl rfl (by simp [c54]) (by decide) ?_)
  unfold c54
  rw [List.map_cons, List.map_cons, List.map_nil, lend_str, lend_str]
  simp (disch := omega) only [wk, avalE, aactE, evPE, boundE, asNat, bv_seql cellsEq_ii, bv_sneqd cellsEq_ii, readC, allOne, fillL, resE, tupled, ↓reduceIte, Nat.reduceEqDiff, Int.reduceEq, Int.reduceLT, Int.reduceLE, Nat.reduceAdd, Nat.reduceMul, Nat.reduceLT, Nat.reduceLeDiff, reduceCtorEq, key, purify, unownT, AV.hf]
theorem idxB_mem (c : UInt8) : ∀ l : List UInt8, (idxB c l).isSome = decide (c ∈ l)
  | [] => rfl
  | b :: r => by
    rw [idxB]
    by_cases h : b = c
    · subst h; simp
    · rw [if_neg (by simpa using h), Option.isSome_map, idxB_mem c r]
      have : ¬ c = b := fun e => h e.symm
      simp [this]
theorem contains0_px (l : List UInt8) (H : Heap) : pcx (cbL tab) 55 [.str (bs l), .str (ByteArray.mk (Array.mk [UInt8.ofNat 0]))] H = some (.plain (.bool (decide (0 ∈ l)))) := by
  have := contains_px (bs l) (UInt8.ofNat 0) H
  have e : UInt8.ofNat 0 = 0 := rfl
  rw [bs_data, e, idxB_mem] at this
  exact this
theorem containsW_px (ks : List (List UInt8)) (hk : ks.length ≤ 9000) (rest : List (List UInt8)) (id : Nat) (H : Heap) (hid : H[id]? = some (.cells (encs strA (ks ++ rest)))) :
    pcx (cbL tab) 59 [rowK id ks, .fn 60 []] H = some (.plain (.bool (ks.any fun x => decide (120 < x.length)))) := by
  unfold rowK
  by_cases h : ks.length = 0
  · rw [if_pos h]
    have : ks = [] := List.eq_nil_of_length_eq_zero h
    subst this
    exact pcx_L rfl (by rw [List.map_cons, List.map_cons, List.map_nil, lendK_sl]; rfl) (containsF_pc 60 (fun x => decide (120 < x.length)) wideF_px [] (by simp) 1 (fun _ => rfl) .ro rfl) rfl
  · rw [if_neg h]
    refine pcx_L rfl ?_ (containsF_pc 60 (fun x => decide (120 < x.length)) wideF_px ks (by omega) 1 (fun _ => rfl) .ro rfl) rfl
    rw [List.map_cons, List.map_cons, List.map_nil, lend_mslS hid]
    rfl
/-- The parts that are told. -/
def rowV (l : List UInt8) : AV := if partsE l = 0 then .sl 1 (cutP l).length (encs strA (cutP l)) .ro else .sl 0 0 [] .z
def partsV (l : List UInt8) : AV := .tup [rowV l, .int .i64 (partsE l)]
theorem parts_px (l : List UInt8) (hn : l.length ≤ 5000) (H : Heap) : pcx (cbL tab) 18 [.str (bs l)] H = some (.plain (partsV l)) := by
  refine pcx_N rfl (pc_wp (fi := c18) rfl rfl (by simp [c18]) (by decide) ?_)
  unfold c18
  rw [List.map_cons, List.map_nil, lend_str]
  have hp := fun H => prefix_px l H
  have h0 := fun H => contains0_px l H
  unfold partsV rowV partsE
  by_cases h1 : 1000 < l.length
  · have h1' : (1000 : Int) < (l.length : Nat) := by omega
    have e3 : ¬ (3 : Int) = 0 := by decide
    simp (disch := omega) only [wk, avalE, aactE, evPE, boundE, asNat, bv_seql cellsEq_ii, bv_sneqd cellsEq_ii, readC, allOne, fillL, resE, tupled, ↓reduceIte, Nat.reduceEqDiff, Int.reduceEq, Int.reduceLT, Int.reduceLE, Nat.reduceAdd, Nat.reduceMul, Nat.reduceLT, Nat.reduceLeDiff, reduceCtorEq, bs_size, h1']
    rw [ret_scp_goto rfl]
    refine ret_again (by decide) (.inl rfl) ?_
    simp (disch := omega) only [wk, avalE, aactE, evPE, boundE, asNat, bv_seql cellsEq_ii, bv_sneqd cellsEq_ii, readC, allOne, fillL, resE, tupled, ↓reduceIte, Nat.reduceEqDiff, Int.reduceEq, Int.reduceLT, Int.reduceLE, Nat.reduceAdd, Nat.reduceMul, Nat.reduceLT, Nat.reduceLeDiff, reduceCtorEq, h1, e3, purify, unownT, unown, AV.hf, hfL, Tk.hf]
  have h1' : ¬ (1000 : Int) < (l.length : Nat) := by omega
  by_cases h2 : l.head? = some 47 ∧ 0 ∉ l
  case neg =>
    have e3 : ¬ (140 : Int) = 0 := by decide
    by_cases ha : l.head? = some 47
    · have hb : 0 ∈ l := Classical.byContradiction fun e => h2 ⟨ha, e⟩
      have ha' : decide (l.head? = some 47) = true := decide_eq_true ha
      have hb' : decide (0 ∈ l) = true := decide_eq_true hb
      have h2' : ¬ (l.head? = some 47 ∧ 0 ∉ l) := h2
      clear h2
      simp (disch := omega) only [wk, avalE, aactE, evPE, boundE, asNat, bv_seql cellsEq_ii, bv_sneqd cellsEq_ii, readC, allOne, fillL, resE, tupled, ↓reduceIte, Nat.reduceEqDiff, Int.reduceEq, Int.reduceLT, Int.reduceLE, Nat.reduceAdd, Nat.reduceMul, Nat.reduceLT, Nat.reduceLeDiff, reduceCtorEq, bs_size, h1', hp, h0, ha', hb']
      rw [ret_scp_goto rfl]
      refine ret_again (by decide) (.inl rfl) ?_
      simp (disch := omega) only [wk, avalE, aactE, evPE, boundE, asNat, bv_seql cellsEq_ii, bv_sneqd cellsEq_ii, readC, allOne, fillL, resE, tupled, ↓reduceIte, Nat.reduceEqDiff, Int.reduceEq, Int.reduceLT, Int.reduceLE, Nat.reduceAdd, Nat.reduceMul, Nat.reduceLT, Nat.reduceLeDiff, reduceCtorEq, e3, purify, unownT, unown, AV.hf, hfL, Tk.hf]
    · have ha' : decide (l.head? = some 47) = false := decide_eq_false ha
      have h2' : ¬ (l.head? = some 47 ∧ 0 ∉ l) := h2
      clear h2
      simp (disch := omega) only [wk, avalE, aactE, evPE, boundE, asNat, bv_seql cellsEq_ii, bv_sneqd cellsEq_ii, readC, allOne, fillL, resE, tupled, ↓reduceIte, Nat.reduceEqDiff, Int.reduceEq, Int.reduceLT, Int.reduceLE, Nat.reduceAdd, Nat.reduceMul, Nat.reduceLT, Nat.reduceLeDiff, reduceCtorEq, bs_size, h1', hp, h0, ha']
      rw [ret_scp_goto rfl]
      refine ret_again (by decide) (.inl rfl) ?_
      simp (disch := omega) only [wk, avalE, aactE, evPE, boundE, asNat, bv_seql cellsEq_ii, bv_sneqd cellsEq_ii, readC, allOne, fillL, resE, tupled, ↓reduceIte, Nat.reduceEqDiff, Int.reduceEq, Int.reduceLT, Int.reduceLE, Nat.reduceAdd, Nat.reduceMul, Nat.reduceLT, Nat.reduceLeDiff, reduceCtorEq, e3, purify, unownT, unown, AV.hf, hfL, Tk.hf]
  rw [if_neg h1, if_pos h2]
  obtain ⟨ha, hb⟩ := h2
  have ha' : decide (l.head? = some 47) = true := decide_eq_true ha
  have hb' : decide (0 ∈ l) = false := decide_eq_false hb
  obtain ⟨l', rfl⟩ : ∃ l', l = 47 :: l' := by
    cases l with
    | nil => cases ha
    | cons b r => simp only [List.head?_cons, Option.some.injEq] at ha; subst ha; exact ⟨r, rfl⟩
  have hsp : splS [] (47 :: l') = [] :: splS [] l' := by rw [splS, if_pos rfl]
  have hcut : cutP (47 :: l') = keepP (splS [] l') := by
    unfold cutP keepP
    rw [hsp, List.filter_cons_of_neg (by simp)]
  have hlen : (splS [] l').length ≤ 5001 := by
    have := splS_count l' []
    have := List.count_le_length (a := (47 : UInt8)) (l := l')
    simp only [List.length_cons] at hn
    omega
  have h1' : ¬ (1000 : Int) < (l'.length : Nat) + 1 := by simp only [List.length_cons] at h1; omega
  have si := split_ic (47 :: l') hn []
  rw [hsp] at si
  simp only [List.length_cons, List.length_nil, List.nil_append] at si
  have sn : pcx (cbL tab) 57 [.str (bs (47 :: l')), .str slB] [] = none := pcx_none rfl (pc_none (fi := c57) rfl rfl)
  have sl : (cbL tab).lent 57 = false := rfl
  generalize splS [] l' = a at *
  have di := deleteF_ic a (by omega) 0 [.cells (encs strA ([] :: a))] rfl
  have dn : ∀ H, pcx (cbL tab) 56 [.msl 1 0 0 (a.length + 1), .fn 58 []] H = none := fun H => pcx_none rfl (pc_none (fi := c56) rfl (by simp [pcOn, c56, lend, unown, hfL, AV.hf]))
  have dl : (cbL tab).lent 56 = false := rfl
  have hkl : (keepP a).length ≤ a.length := List.length_filter_le _ _
  obtain ⟨rest, hrest⟩ : ∃ rest, rest = List.replicate (a.length + 1 - (keepP a).length) ([] : List UInt8) := ⟨_, rfl⟩
  rw [← hrest] at di
  simp only [List.set_cons_zero] at di
  generalize encs strA ([] :: a) = C at si di
  have cw := containsW_px (keepP a) (by omega) rest 0 [.cells (encs strA (keepP a ++ rest))] rfl
  have hw : wideP (47 :: l') = (keepP a).any fun x => decide (120 < x.length) := by rw [wideP, hcut]
  rw [← hw] at cw
  rw [hcut]
  generalize hks : keepP a = ks at *
  cases hwd : wideP (47 :: l') with
  | true =>
    rw [hwd] at cw
    have e3 : ¬ (141 : Int) = 0 := by decide
    simp (disch := omega) only [wk, avalE, aactE, evPE, boundE, asNat, bv_seql cellsEq_ii, bv_sneqd cellsEq_ii, readC, allOne, fillL, resE, tupled, ↓reduceIte, Nat.reduceEqDiff, Int.reduceEq, Int.reduceLT, Int.reduceLE, Nat.reduceAdd, Nat.reduceMul, Nat.reduceLT, Nat.reduceLeDiff, reduceCtorEq, bs_size, h1', hp, h0, ha', hb', sn, runE_none sl, si, dn, runE_none dl, di, cw]
    rw [ret_scp_goto rfl]
    refine ret_again (by decide) (.inl rfl) ?_
    simp (disch := omega) only [wk, avalE, aactE, evPE, boundE, asNat, bv_seql cellsEq_ii, bv_sneqd cellsEq_ii, readC, allOne, fillL, resE, tupled, ↓reduceIte, Nat.reduceEqDiff, Int.reduceEq, Int.reduceLT, Int.reduceLE, Nat.reduceAdd, Nat.reduceMul, Nat.reduceLT, Nat.reduceLeDiff, reduceCtorEq, e3, purify, unownT, unown, AV.hf, hfL, Tk.hf]
  | false =>
    rw [hwd] at cw
    simp (disch := omega) only [wk, avalE, aactE, evPE, boundE, asNat, bv_seql cellsEq_ii, bv_sneqd cellsEq_ii, readC, allOne, fillL, resE, tupled, ↓reduceIte, Nat.reduceEqDiff, Int.reduceEq, Int.reduceLT, Int.reduceLE, Nat.reduceAdd, Nat.reduceMul, Nat.reduceLT, Nat.reduceLeDiff, reduceCtorEq, bs_size, h1', hp, h0, ha', hb', sn, runE_none sl, si, dn, runE_none dl, di, cw]
    unfold rowK
    by_cases hk0 : ks.length = 0
    · have : ks = [] := List.eq_nil_of_length_eq_zero hk0
      subst this
      rfl
    · rw [if_neg hk0]
      have e1 : List.take ks.length (encs strA (ks ++ rest)) = encs strA ks := by
        rw [encs_append, List.take_append_of_le_length (by rw [lenS]; exact Nat.le_refl _), List.take_of_length_le (by rw [lenS]; exact Nat.le_refl _)]
      have e2 : ks.length ≤ (encs strA (ks ++ rest)).length := by rw [lenS, List.length_append]; omega
      simp only [purify, List.getElem?_cons_zero, Nat.zero_add, Nat.mul_one, List.drop_zero, e1, e2, hf_strA, AV.hf, and_self, if_true]
end Go.Proofs.YtmogflndepihnaaDoor
