/- THE WALKS OF NAMES, AND OF WHAT A RECORD MAY BE. No condition but those stated. -/
import Derived.Test.YtailfegmnkldoaaRM
import Derived.Test.YtailfegmnkldoaaRW
set_option linter.unusedSimpArgs false
set_option linter.unusedVariables false
set_option linter.unusedSectionVars false
namespace Go.Proofs.Ytailfegmnkldoaa
open Go Go.Am Go.Rec
set_option maxHeartbeats 2000000
set_option maxRecDepth 10000
theorem bv_streq {xo yo : X} {ek : EqK} {a b : ByteArray} : binV .eql ek xo yo (.str a) (.str b) = some (.bool (a.toList == b.toList)) := rfl
theorem num_px (n : Int) (H : Heap) : pcx (cbL tab) 44 [.int .i64 n] H = some (.plain (.int .i64 n)) := by
  refine pcx_N rfl (pc_wp (fi := c44) rfl rfl (by simp [c44]) (by decide) ?_)
  unfold c44
  rw [List.map_cons, List.map_nil, lend_int]
  simp (disch := omega) only [wk, avalE, aactE, evPE, boundE, asNat, bv_seql cellsEq_ii, bv_sneqd cellsEq_ii, readC, allOne, fillL, resE, tupled, ↓reduceIte, Nat.reduceEqDiff, Int.reduceEq, Int.reduceLT, Int.reduceLE, Nat.reduceAdd, Nat.reduceMul, Nat.reduceLT, Nat.reduceLeDiff, reduceCtorEq, purify, unownT, lend, AV.hf]
theorem k46 : (ByteArray.mk (Array.mk [UInt8.ofNat 46])).toList = [46] := (ByteArray.toList_eq _).trans rfl
theorem k46b : (ByteArray.mk (Array.mk [UInt8.ofNat 46, UInt8.ofNat 46])).toList = [46, 46] := (ByteArray.toList_eq _).trans rfl
theorem k0 : (ByteArray.mk (Array.mk [])).toList = [] := (ByteArray.toList_eq _).trans rfl
theorem dots_px (s : ByteArray) (H : Heap) : pcx (cbL tab) 131 [.str s] H = some (.plain (.bool (dotsM s))) := by
  refine pcx_N rfl (pc_wp (fi := c131) rfl rfl (by simp [c131]) (by decide) ?_)
  unfold c131
  rw [List.map_cons, List.map_nil, lend_str]
  have e : dotsM s = ((s.toList == [46]) || (s.toList == [46, 46])) := rfl
  cases h1 : (s.toList == [46]) <;> cases h2 : (s.toList == [46, 46]) <;> simp (disch := omega) only [wk, avalE, aactE, evPE, boundE, asNat, bv_seql cellsEq_ii, bv_sneqd cellsEq_ii, readC, allOne, fillL, resE, tupled, ↓reduceIte, Nat.reduceEqDiff, Int.reduceEq, Int.reduceLT, Int.reduceLE, Nat.reduceAdd, Nat.reduceMul, Nat.reduceLT, Nat.reduceLeDiff, reduceCtorEq, bv_streq, k46, k46b, h1, h2, purify, unownT, lend, AV.hf, e, Bool.or_true, Bool.true_or, Bool.or_false]
theorem dots2_px (s : ByteArray) (H : Heap) : pcx (cbL tab) 161 [.str s] H = some (.plain (.bool (dotsM s))) := by
  refine pcx_N rfl (pc_wp (fi := c161) rfl rfl (by simp [c161]) (by decide) ?_)
  unfold c161
  rw [List.map_cons, List.map_nil, lend_str]
  have e : dotsM s = ((s.toList == [46]) || (s.toList == [46, 46])) := rfl
  cases h1 : (s.toList == [46]) <;> cases h2 : (s.toList == [46, 46]) <;> simp (disch := omega) only [wk, avalE, aactE, evPE, boundE, asNat, bv_seql cellsEq_ii, bv_sneqd cellsEq_ii, readC, allOne, fillL, resE, tupled, ↓reduceIte, Nat.reduceEqDiff, Int.reduceEq, Int.reduceLT, Int.reduceLE, Nat.reduceAdd, Nat.reduceMul, Nat.reduceLT, Nat.reduceLeDiff, reduceCtorEq, bv_streq, k46, k46b, h1, h2, purify, unownT, lend, AV.hf, e, Bool.or_true, Bool.true_or, Bool.or_false]
theorem at_pre {s : ByteArray} {pre r : List UInt8} {b : UInt8} (h : s.data.toList = pre ++ b :: r) : s[pre.length]? = some b := by
  have hs : pre.length < s.size := by rw [← size_data, h]; simp
  rw [getElem?_pos s pre.length hs]
  have : s[pre.length] = s.data.toList[pre.length]'(by rw [size_data]; exact hs) := by
    rw [Array.getElem_toList]; rfl
  rw [this]
  simp only [h, List.getElem_append_right (Nat.le_refl _), Nat.sub_self, List.getElem_cons_zero]
theorem plain_px (s : ByteArray) (H : Heap) (hn : s.size ≤ 1000) : pcx (cbL tab) 132 [.str s] H = some (.plain (.bool (plainM s.data.toList))) := by
  refine pcx_N rfl (pc_wp (fi := c132) rfl rfl (by simp [c132]) (by decide) ?_)
  unfold c132
  rw [List.map_cons, List.map_nil, lend_str]
  simp (disch := omega) only [wk, avalE, aactE, evPE, boundE, asNat, bv_seql cellsEq_ii, bv_sneqd cellsEq_ii, readC, allOne, fillL, resE, tupled, ↓reduceIte, Nat.reduceEqDiff, Int.reduceEq, Int.reduceLT, Int.reduceLE, Nat.reduceAdd, Nat.reduceMul, Nat.reduceLT, Nat.reduceLeDiff, reduceCtorEq]
  refine loop_ind (fun (x : List UInt8 × List UInt8) E df H => s.data.toList = x.1 ++ x.2 ∧ plainM s.data.toList = plainM x.2 ∧ E 0 = .str s ∧ E 3 = .int .i64 (x.1.length : Nat) ∧ df = [] ∧ H = [])
    (fun x => x.2.length) ([], s.data.toList) (by decide) (.inl rfl) ⟨rfl, rfl, rfl, rfl, rfl, rfl⟩ ?_
  intro ⟨pre, suf⟩ E df H ih hP
  obtain ⟨a1, a2, E0, E3, hdf, hH⟩ := hP
  dsimp only at a1 a2 E3
  subst hdf hH
  have hl := size_data s
  rw [a1, List.length_append] at hl
  cases suf with
  | nil =>
    simp only [List.length_nil] at hl
    have : plainM [] = true := rfl
    simp (disch := omega) only [wk, avalE, aactE, evPE, boundE, asNat, bv_seql cellsEq_ii, bv_sneqd cellsEq_ii, readC, allOne, fillL, resE, tupled, ↓reduceIte, Nat.reduceEqDiff, Int.reduceEq, Int.reduceLT, Int.reduceLE, Nat.reduceAdd, Nat.reduceMul, Nat.reduceLT, Nat.reduceLeDiff, reduceCtorEq, E0, E3, purify, unownT, lend, AV.hf, a2, this]
  | cons b r =>
    simp only [List.length_cons] at hl
    have hb := at_pre a1
    have hp : plainM (b :: r) = ((b != 0 && b != 47) && plainM r) := rfl
    have n0 : ((b.toNat : Int) = 0) ↔ b = 0 := by
      rw [← UInt8.toNat_inj]; simp
    have n47 : ((b.toNat : Int) = 47) ↔ b = 47 := by
      rw [← UInt8.toNat_inj]
      have : (47 : UInt8).toNat = 47 := rfl
      omega
    by_cases h0 : (b.toNat : Int) = 0
    · have : plainM (b :: r) = false := by rw [hp, n0.1 h0]; rfl
      simp (disch := omega) only [wk, avalE, aactE, evPE, boundE, asNat, bv_seql cellsEq_ii, bv_sneqd cellsEq_ii, readC, allOne, fillL, resE, tupled, ↓reduceIte, Nat.reduceEqDiff, Int.reduceEq, Int.reduceLT, Int.reduceLE, Nat.reduceAdd, Nat.reduceMul, Nat.reduceLT, Nat.reduceLeDiff, reduceCtorEq, E0, E3, hb, h0, purify, unownT, lend, AV.hf, a2, this]
    by_cases h47 : (b.toNat : Int) = 47
    · have : plainM (b :: r) = false := by rw [hp, n47.1 h47]; rfl
      have h0' : ¬ (47 : Int) = 0 := by decide
      simp (disch := omega) only [wk, avalE, aactE, evPE, boundE, asNat, bv_seql cellsEq_ii, bv_sneqd cellsEq_ii, readC, allOne, fillL, resE, tupled, ↓reduceIte, Nat.reduceEqDiff, Int.reduceEq, Int.reduceLT, Int.reduceLE, Nat.reduceAdd, Nat.reduceMul, Nat.reduceLT, Nat.reduceLeDiff, reduceCtorEq, E0, E3, hb, h47, h0', purify, unownT, lend, AV.hf, a2, this]
    · simp (disch := omega) only [wk, avalE, aactE, evPE, boundE, asNat, bv_seql cellsEq_ii, bv_sneqd cellsEq_ii, readC, allOne, fillL, resE, tupled, ↓reduceIte, Nat.reduceEqDiff, Int.reduceEq, Int.reduceLT, Int.reduceLE, Nat.reduceAdd, Nat.reduceMul, Nat.reduceLT, Nat.reduceLeDiff, reduceCtorEq, E0, E3, hb, h0, h47]
      rw [n0] at h0
      rw [n47] at h47
      refine ih (pre ++ [b], r) _ _ _ (by simp) ?_
      exact ⟨by simp [a1], by rw [a2, hp]; simp [h0, h47], by simp only [en, ↓reduceIte, Nat.reduceEqDiff, E0], by simp only [en, ↓reduceIte, Nat.reduceEqDiff], rfl, rfl⟩
theorem hf_lend_str' (s : ByteArray) : (lend (.str s)).hf = true := rfl
theorem rcheck_px (s : ByteArray) (H : Heap) (hn : s.size ≤ 1000) : pcx (cbL tab) 79 [.str s] H = some (.plain (.int .i64 (nameM s))) := by
  refine pcx_N rfl (pc_wp (fi := c79) rfl rfl (by simp [c79]) (by decide) ?_)
  unfold c79
  rw [List.map_cons, List.map_nil, lend_str]
  have d1 := fun H => dots_px s H
  have p1 := fun H => plain_px s H hn
  unfold nameM
  cases h1 : (s.toList == []) <;> cases h2 : dotsM s <;> cases h3 : plainM s.data.toList <;> by_cases h4 : 120 < s.size <;>
    simp (disch := omega) only [wk, avalE, aactE, evPE, boundE, asNat, bv_seql cellsEq_ii, bv_sneqd cellsEq_ii, readC, allOne, fillL, resE, tupled, ↓reduceIte, Nat.reduceEqDiff, Int.reduceEq, Int.reduceLT, Int.reduceLE, Nat.reduceAdd, Nat.reduceMul, Nat.reduceLT, Nat.reduceLeDiff, reduceCtorEq, bv_streq, k0, h1, h2, h3, h4, d1, p1, purify, unownT, lend, AV.hf, Bool.false_eq_true, or_false, or_true, false_or, true_or]
theorem idxb_px (s : ByteArray) (c : UInt8) (H : Heap) : pcx (cbL tab) 204 [.str s, .int .u8 (c.toNat : Nat)] H = some (.plain (idxV (idxB c s.data.toList))) := by
  refine pcx_N rfl (pc_wp (fi := c204) rfl rfl (by simp [c204]) (by decide) ?_)
  unfold c204
  rw [List.map_cons, List.map_cons, List.map_nil, lend_str, lend_int]
  have e : UInt8.ofNat c.toNat = c := by simp
  cases h : idxB c s.data.toList <;> simp (disch := omega) only [wk, avalE, aactE, evPE, boundE, asNat, bv_seql cellsEq_ii, bv_sneqd cellsEq_ii, readC, allOne, fillL, resE, tupled, ↓reduceIte, Nat.reduceEqDiff, Int.reduceEq, Int.reduceLT, Int.reduceLE, Nat.reduceAdd, Nat.reduceMul, Nat.reduceLT, Nat.reduceLeDiff, reduceCtorEq, e, h, idxV, purify, unownT, lend, AV.hf]
theorem index_px (s : ByteArray) (c : UInt8) (H : Heap) : pcx (cbL tab) 194 [.str s, .str (ByteArray.mk (Array.mk [c]))] H = some (.plain (idxV (idxB c s.data.toList))) := by
  refine pcx_N rfl (pc_wp (fi := c194) rfl rfl (by simp [c194]) (by decide) ?_)
  unfold c194
  rw [List.map_cons, List.map_cons, List.map_nil, lend_str, lend_str]
  have p1 := fun H => idxb_px s c H
  have z : (ByteArray.mk (Array.mk [c])).size = 1 := rfl
  have z2 : (ByteArray.mk (Array.mk [c]))[0]? = some c := rfl
  have i1 : ((1 : Nat) : Int) = 1 := rfl
  have i0 : (0 : Int).toNat = 0 := rfl
  cases hs : ((ByteArray.mk (Array.mk [c])).toList == s.toList) with
  | true =>
    have e : s.data.toList = [c] := by
      have := eq_of_beq hs
      rw [ByteArray.toList_eq, ByteArray.toList_eq] at this
      exact this.symm
    have : idxB c s.data.toList = some 0 := by rw [e]; simp [idxB]
    simp (disch := omega) only [wk, avalE, aactE, evPE, boundE, asNat, bv_seql cellsEq_ii, bv_sneqd cellsEq_ii, readC, allOne, fillL, resE, tupled, ↓reduceIte, Nat.reduceEqDiff, Int.reduceEq, Int.reduceLT, Int.reduceLE, Nat.reduceAdd, Nat.reduceMul, Nat.reduceLT, Nat.reduceLeDiff, reduceCtorEq, z, z2, i1, i0, p1, this, idxV, purify, unownT, lend, AV.hf, Option.map_some, bv_streq, hs]
    rfl
  | false => cases h : idxB c s.data.toList <;> simp (disch := omega) only [wk, avalE, aactE, evPE, boundE, asNat, bv_seql cellsEq_ii, bv_sneqd cellsEq_ii, readC, allOne, fillL, resE, tupled, ↓reduceIte, Nat.reduceEqDiff, Int.reduceEq, Int.reduceLT, Int.reduceLE, Nat.reduceAdd, Nat.reduceMul, Nat.reduceLT, Nat.reduceLeDiff, reduceCtorEq, z, z2, i1, i0, p1, h, idxV, purify, unownT, lend, AV.hf, Option.map_some, bv_streq, hs]
theorem contains_px (s : ByteArray) (c : UInt8) (H : Heap) : pcx (cbL tab) 162 [.str s, .str (ByteArray.mk (Array.mk [c]))] H = some (.plain (.bool (idxB c s.data.toList).isSome)) := by
  refine pcx_N rfl (pc_wp (fi := c162) rfl rfl (by simp [c162]) (by decide) ?_)
  unfold c162
  rw [List.map_cons, List.map_cons, List.map_nil, lend_str, lend_str]
  have p0 : ∀ H, pcx (cbL tab) 183 [.str s, .str (ByteArray.mk (Array.mk [c]))] H = some (.plain (idxV (idxB c s.data.toList))) := by
    intro H
    refine pcx_N rfl (pc_wp (fi := c183) rfl rfl (by simp [c183]) (by decide) ?_)
    unfold c183
    rw [List.map_cons, List.map_cons, List.map_nil, lend_str, lend_str]
    have p1 := fun H => index_px s c H
    cases h : idxB c s.data.toList <;> simp (disch := omega) only [wk, avalE, aactE, evPE, boundE, asNat, bv_seql cellsEq_ii, bv_sneqd cellsEq_ii, readC, allOne, fillL, resE, tupled, ↓reduceIte, Nat.reduceEqDiff, Int.reduceEq, Int.reduceLT, Int.reduceLE, Nat.reduceAdd, Nat.reduceMul, Nat.reduceLT, Nat.reduceLeDiff, reduceCtorEq, p1, h, idxV, purify, unownT, lend, AV.hf]
  cases h : idxB c s.data.toList with
  | none =>
    have n1 : ¬ (0 : Int) ≤ -1 := by decide
    simp (disch := omega) only [wk, avalE, aactE, evPE, boundE, asNat, bv_seql cellsEq_ii, bv_sneqd cellsEq_ii, readC, allOne, fillL, resE, tupled, ↓reduceIte, Nat.reduceEqDiff, Int.reduceEq, Int.reduceLT, Int.reduceLE, Nat.reduceAdd, Nat.reduceMul, Nat.reduceLT, Nat.reduceLeDiff, reduceCtorEq, p0, h, idxV, purify, unownT, lend, AV.hf, n1, Option.isSome_none]
  | some j =>
    have n1 : (0 : Int) ≤ (j : Int) := by omega
    simp (disch := omega) only [wk, avalE, aactE, evPE, boundE, asNat, bv_seql cellsEq_ii, bv_sneqd cellsEq_ii, readC, allOne, fillL, resE, tupled, ↓reduceIte, Nat.reduceEqDiff, Int.reduceEq, Int.reduceLT, Int.reduceLE, Nat.reduceAdd, Nat.reduceMul, Nat.reduceLT, Nat.reduceLeDiff, reduceCtorEq, p0, h, idxV, purify, unownT, lend, AV.hf, n1, Option.isSome_some]
/-- The first ask. -/
theorem ask1_px (s : ByteArray) (H : Heap) : pcx (cbL tab) 160 [.str s] H = some (.plain (.bool (decide ((s.toList == []) = true ∨ dotsM s = true ∨ plainM s.data.toList = false)))) := by
  have e : decide ((s.toList == []) = true ∨ dotsM s = true ∨ plainM s.data.toList = false) = ((s.toList == []) || dotsM s || (idxB 0 s.data.toList).isSome || (idxB 47 s.data.toList).isSome) := by
    have hp := plainM_idx s.data.toList
    simp only [hp]
    cases (s.toList == []) <;> cases dotsM s <;> cases (idxB 0 s.data.toList).isSome <;> cases (idxB 47 s.data.toList).isSome <;> rfl
  rw [e]
  refine pcx_N rfl (pc_wp (fi := c160) rfl rfl (by simp [c160]) (by decide) ?_)
  unfold c160
  rw [List.map_cons, List.map_nil, lend_str]
  have d1 := fun H => dots2_px s H
  have q0 : ∀ H, pcx (cbL tab) 162 [.str s, .str (ByteArray.mk (Array.mk [UInt8.ofNat 0]))] H = _ := fun H => contains_px s (UInt8.ofNat 0) H
  have q47 : ∀ H, pcx (cbL tab) 162 [.str s, .str (ByteArray.mk (Array.mk [UInt8.ofNat 47]))] H = _ := fun H => contains_px s (UInt8.ofNat 47) H
  have c0 : UInt8.ofNat 0 = 0 := rfl
  have c47 : UInt8.ofNat 47 = 47 := rfl
  rw [c0] at q0
  rw [c47] at q47
  cases h1 : (s.toList == []) <;> cases h2 : dotsM s <;> cases h3 : (idxB 0 s.data.toList).isSome <;> cases h4 : (idxB 47 s.data.toList).isSome <;>
    simp (disch := omega) only [wk, avalE, aactE, evPE, boundE, asNat, bv_seql cellsEq_ii, bv_sneqd cellsEq_ii, readC, allOne, fillL, resE, tupled, ↓reduceIte, Nat.reduceEqDiff, Int.reduceEq, Int.reduceLT, Int.reduceLE, Nat.reduceAdd, Nat.reduceMul, Nat.reduceLT, Nat.reduceLeDiff, reduceCtorEq, bv_streq, k0, c0, c47, h1, h2, h3, h4, d1, q0, q47, purify, unownT, lend, AV.hf, Bool.or_true, Bool.true_or, Bool.or_false, Option.map_some]
theorem ask2_px (s : ByteArray) (H : Heap) : pcx (cbL tab) 163 [.str s] H = some (.plain (.bool (decide (120 < s.size)))) := by
  refine pcx_N rfl (pc_wp (fi := c163) rfl rfl (by simp [c163]) (by decide) ?_)
  unfold c163
  rw [List.map_cons, List.map_nil, lend_str]
  by_cases h : 120 < s.size
  · have h' : (120 : Int) < s.size := by omega
    simp (disch := omega) only [wk, avalE, aactE, evPE, boundE, asNat, bv_seql cellsEq_ii, bv_sneqd cellsEq_ii, readC, allOne, fillL, resE, tupled, ↓reduceIte, Nat.reduceEqDiff, Int.reduceEq, Int.reduceLT, Int.reduceLE, Nat.reduceAdd, Nat.reduceMul, Nat.reduceLT, Nat.reduceLeDiff, reduceCtorEq, h, h', purify, unownT, lend, AV.hf]
  · have h' : ¬ (120 : Int) < s.size := by omega
    simp (disch := omega) only [wk, avalE, aactE, evPE, boundE, asNat, bv_seql cellsEq_ii, bv_sneqd cellsEq_ii, readC, allOne, fillL, resE, tupled, ↓reduceIte, Nat.reduceEqDiff, Int.reduceEq, Int.reduceLT, Int.reduceLE, Nat.reduceAdd, Nat.reduceMul, Nat.reduceLT, Nat.reduceLeDiff, reduceCtorEq, h, h', purify, unownT, lend, AV.hf]
theorem asks_px (H : Heap) : pcx (cbL tab) 129 [] H = some (.plain (.sl 2 2 [.fn 160 [], .int .i64 140, .fn 163 [], .int .i64 141] .ro)) := by
  refine pcx_N rfl (pc_wp (fi := c129) rfl rfl (by simp [c129]) (by decide) ?_)
  unfold c129
  rw [List.map_nil]
  simp (disch := omega) only [wk, avalE, aactE, evPE, boundE, asNat, bv_seql cellsEq_ii, bv_sneqd cellsEq_ii, readC, allOne, fillL, resE, tupled, ↓reduceIte, Nat.reduceEqDiff, Int.reduceEq, Int.reduceLT, Int.reduceLE, Nat.reduceAdd, Nat.reduceMul, Nat.reduceLT, Nat.reduceLeDiff, reduceCtorEq, purify, unownT, lend, AV.hf, unown, hfL, Tk.hf]
end Go.Proofs.Ytailfegmnkldoaa
