/- TEXTS. No condition but those stated. -/
import Derived.Test.YtncmflmjlocgiaaE10
set_option linter.unusedSimpArgs false
set_option linter.unusedVariables false
set_option linter.unusedSectionVars false
namespace Go.Proofs.Ytncmflmjlocgiaa
open Go Go.Am Go.Rec Go.Ino
set_option maxHeartbeats 4000000
set_option maxRecDepth 10000
theorem k0 : (ByteArray.mk (Array.mk [])).toList = [] := (ByteArray.toList_eq _).trans rfl
theorem at_pre {s : ByteArray} {pre r : List UInt8} {b : UInt8} (h : s.data.toList = pre ++ b :: r) : s[pre.length]? = some b := by
  have hs : pre.length < s.size := by rw [← size_data, h]; simp
  rw [getElem?_pos s pre.length hs]
  have : s[pre.length] = s.data.toList[pre.length]'(by rw [size_data]; exact hs) := by
    rw [Array.getElem_toList]; rfl
  rw [this]
  simp only [h, List.getElem_append_right (Nat.le_refl _), Nat.sub_self, List.getElem_cons_zero]
theorem idxb_px (s : ByteArray) (c : UInt8) (H : Heap) : pcx (cbL tab) 167 [.str s, .int .u8 (c.toNat : Nat)] H = some (.plain (idxV (idxB c s.data.toList))) := by
  refine pcx_N rfl (pc_wp (fi := c167) rfl rfl (by simp [c167]) (by decide) ?_)
  unfold c167
  rw [List.map_cons, List.map_cons, List.map_nil, lend_str, lend_int]
  have e : UInt8.ofNat c.toNat = c := by simp
  cases h : idxB c s.data.toList <;> simp (disch := omega) only [wk, avalE, aactE, evPE, boundE, asNat, bv_seql cellsEq_ii, bv_sneqd cellsEq_ii, readC, allOne, fillL, resE, tupled, ↓reduceIte, Nat.reduceEqDiff, Int.reduceEq, Int.reduceLT, Int.reduceLE, Nat.reduceAdd, Nat.reduceMul, Nat.reduceLT, Nat.reduceLeDiff, reduceCtorEq, e, h, idxV, purify, unownT, AV.hf]
theorem index_px (s : ByteArray) (c : UInt8) (H : Heap) : pcx (cbL tab) 154 [.str s, .str (ByteArray.mk (Array.mk [c]))] H = some (.plain (idxV (idxB c s.data.toList))) := by
  refine pcx_N rfl (pc_wp (fi := c154) rfl rfl (by simp [c154]) (by decide) ?_)
  unfold c154
  rw [List.map_cons, List.map_cons, List.map_nil, lend_str, lend_str]
  have p1 := fun H => idxb_px s c H
  have z : (ByteArray.mk (Array.mk [c])).size = 1 := rfl
  have z2 : (ByteArray.mk (Array.mk [c]))[0]? = some c := rfl
  have i1 : ((1 : Nat) : Int) = 1 := rfl
  have i0 : (0 : Int).toNat = 0 := rfl
  cases hs : ((ByteArray.mk (Array.mk [c])).toList == s.toList) with
  | true =>
    have e : s.data.toList = [c] := by
      have := eq_of_beq hs
      rw [ByteArray.toList_eq, ByteArray.toList_eq] at this
      exact this.symm
    have : idxB c s.data.toList = some 0 := by rw [e]; simp [idxB]
    simp (disch := omega) only [wk, avalE, aactE, evPE, boundE, asNat, bv_seql cellsEq_ii, bv_sneqd cellsEq_ii, readC, allOne, fillL, resE, tupled, ↓reduceIte, Nat.reduceEqDiff, Int.reduceEq, Int.reduceLT, Int.reduceLE, Nat.reduceAdd, Nat.reduceMul, Nat.reduceLT, Nat.reduceLeDiff, reduceCtorEq, z, z2, i1, i0, p1, this, idxV, purify, unownT, AV.hf, Option.map_some, bv_streq, hs]
    rfl
  | false => cases h : idxB c s.data.toList <;> simp (disch := omega) only [wk, avalE, aactE, evPE, boundE, asNat, bv_seql cellsEq_ii, bv_sneqd cellsEq_ii, readC, allOne, fillL, resE, tupled, ↓reduceIte, Nat.reduceEqDiff, Int.reduceEq, Int.reduceLT, Int.reduceLE, Nat.reduceAdd, Nat.reduceMul, Nat.reduceLT, Nat.reduceLeDiff, reduceCtorEq, z, z2, i1, i0, p1, h, idxV, purify, unownT, AV.hf, Option.map_some, bv_streq, hs]
theorem contains_px (s : ByteArray) (c : UInt8) (H : Heap) : pcx (cbL tab) 119 [.str s, .str (ByteArray.mk (Array.mk [c]))] H = some (.plain (.bool (idxB c s.data.toList).isSome)) := by
  refine pcx_N rfl (pc_wp (fi := c119) rfl rfl (by simp [c119]) (by decide) ?_)
  unfold c119
  rw [List.map_cons, List.map_cons, List.map_nil, lend_str, lend_str]
  have p0 : ∀ H, pcx (cbL tab) 141 [.str s, .str (ByteArray.mk (Array.mk [c]))] H = some (.plain (idxV (idxB c s.data.toList))) := by
    intro H
    refine pcx_N rfl (pc_wp (fi := c141) rfl rfl (by simp [c141]) (by decide) ?_)
    unfold c141
    rw [List.map_cons, List.map_cons, List.map_nil, lend_str, lend_str]
    have p1 := fun H => index_px s c H
    cases h : idxB c s.data.toList <;> simp (disch := omega) only [wk, avalE, aactE, evPE, boundE, asNat, bv_seql cellsEq_ii, bv_sneqd cellsEq_ii, readC, allOne, fillL, resE, tupled, ↓reduceIte, Nat.reduceEqDiff, Int.reduceEq, Int.reduceLT, Int.reduceLE, Nat.reduceAdd, Nat.reduceMul, Nat.reduceLT, Nat.reduceLeDiff, reduceCtorEq, p1, h, idxV, purify, unownT, AV.hf]
  cases h : idxB c s.data.toList with
  | none =>
    have n1 : ¬ (0 : Int) ≤ -1 := by decide
    simp (disch := omega) only [wk, avalE, aactE, evPE, boundE, asNat, bv_seql cellsEq_ii, bv_sneqd cellsEq_ii, readC, allOne, fillL, resE, tupled, ↓reduceIte, Nat.reduceEqDiff, Int.reduceEq, Int.reduceLT, Int.reduceLE, Nat.reduceAdd, Nat.reduceMul, Nat.reduceLT, Nat.reduceLeDiff, reduceCtorEq, p0, h, idxV, purify, unownT, AV.hf, n1, Option.isSome_none]
  | some j =>
    have n1 : (0 : Int) ≤ (j : Int) := by omega
    simp (disch := omega) only [wk, avalE, aactE, evPE, boundE, asNat, bv_seql cellsEq_ii, bv_sneqd cellsEq_ii, readC, allOne, fillL, resE, tupled, ↓reduceIte, Nat.reduceEqDiff, Int.reduceEq, Int.reduceLT, Int.reduceLE, Nat.reduceAdd, Nat.reduceMul, Nat.reduceLT, Nat.reduceLeDiff, reduceCtorEq, p0, h, idxV, purify, unownT, AV.hf, n1, Option.isSome_some]
theorem flatM_idx (l : List UInt8) : flatM l = !(idxB 0 l).isSome := by
  have h := idxB_none 0 l
  unfold flatM
  cases hi : idxB 0 l with
  | none => rw [h.1 hi]; rfl
  | some j =>
    have : ¬ l.all (fun b => b != 0) = true := fun h2 => by rw [h.2 h2] at hi; cases hi
    rw [Bool.not_eq_true] at this
    rw [this]; rfl
theorem contains0_px (s : ByteArray) (H : Heap) : pcx (cbL tab) 119 [.str s, .str (ByteArray.mk (Array.mk [UInt8.ofNat 0]))] H = some (.plain (.bool (!flatM s.data.toList))) := by
  rw [flatM_idx, Bool.not_not]
  exact contains_px s (UInt8.ofNat 0) H
theorem rplain_px (s : ByteArray) (H : Heap) (hn : s.size ≤ 1000) : pcx (cbL tab) 80 [.str s] H = some (.plain (.bool (flatM s.data.toList))) := by
  refine pcx_N rfl (pc_wp (fi := c80) rfl rfl (by simp [c80]) (by decide) ?_)
  unfold c80
  rw [List.map_cons, List.map_nil, lend_str]
  simp (disch := omega) only [wk, avalE, aactE, evPE, boundE, asNat, bv_seql cellsEq_ii, bv_sneqd cellsEq_ii, readC, allOne, fillL, resE, tupled, ↓reduceIte, Nat.reduceEqDiff, Int.reduceEq, Int.reduceLT, Int.reduceLE, Nat.reduceAdd, Nat.reduceMul, Nat.reduceLT, Nat.reduceLeDiff, reduceCtorEq]
  refine loop_ind (fun (x : List UInt8 × List UInt8) E df H => s.data.toList = x.1 ++ x.2 ∧ flatM s.data.toList = flatM x.2 ∧ E 0 = .str s ∧ E 3 = .int .i64 (x.1.length : Nat) ∧ df = [] ∧ H = [])
    (fun x => x.2.length) ([], s.data.toList) (by decide) (.inl rfl) ⟨rfl, rfl, rfl, rfl, rfl, rfl⟩ ?_
  intro ⟨pre, suf⟩ E df H ih hP
  obtain ⟨a1, a2, E0, E3, hdf, hH⟩ := hP
  dsimp only at a1 a2 E3
  subst hdf hH
  have hl := size_data s
  rw [a1, List.length_append] at hl
  cases suf with
  | nil =>
    simp only [List.length_nil] at hl
    have : flatM [] = true := rfl
    simp (disch := omega) only [wk, avalE, aactE, evPE, boundE, asNat, bv_seql cellsEq_ii, bv_sneqd cellsEq_ii, readC, allOne, fillL, resE, tupled, ↓reduceIte, Nat.reduceEqDiff, Int.reduceEq, Int.reduceLT, Int.reduceLE, Nat.reduceAdd, Nat.reduceMul, Nat.reduceLT, Nat.reduceLeDiff, reduceCtorEq, E0, E3, purify, unownT, AV.hf, a2, this]
  | cons b r =>
    simp only [List.length_cons] at hl
    have hb := at_pre a1
    have hp : flatM (b :: r) = ((b != 0) && flatM r) := rfl
    have n0 : ((b.toNat : Int) = 0) ↔ b = 0 := by
      rw [← UInt8.toNat_inj]; simp
    by_cases h0 : (b.toNat : Int) = 0
    · have : flatM (b :: r) = false := by rw [hp, n0.1 h0]; rfl
      simp (disch := omega) only [wk, avalE, aactE, evPE, boundE, asNat, bv_seql cellsEq_ii, bv_sneqd cellsEq_ii, readC, allOne, fillL, resE, tupled, ↓reduceIte, Nat.reduceEqDiff, Int.reduceEq, Int.reduceLT, Int.reduceLE, Nat.reduceAdd, Nat.reduceMul, Nat.reduceLT, Nat.reduceLeDiff, reduceCtorEq, E0, E3, hb, h0, purify, unownT, AV.hf, a2, this]
    · simp (disch := omega) only [wk, avalE, aactE, evPE, boundE, asNat, bv_seql cellsEq_ii, bv_sneqd cellsEq_ii, readC, allOne, fillL, resE, tupled, ↓reduceIte, Nat.reduceEqDiff, Int.reduceEq, Int.reduceLT, Int.reduceLE, Nat.reduceAdd, Nat.reduceMul, Nat.reduceLT, Nat.reduceLeDiff, reduceCtorEq, E0, E3, hb, h0]
      rw [n0] at h0
      refine ih (pre ++ [b], r) _ _ _ (by simp) ?_
      exact ⟨by simp [a1], by rw [a2, hp]; simp [h0], by simp only [en, ↓reduceIte, Nat.reduceEqDiff, E0], by simp only [en, ↓reduceIte, Nat.reduceEqDiff], rfl, rfl⟩
theorem runG_un {cb : CB} {rd : Option Nat} {n : Nat} {Q : KP} {ks : List Kt} {E : Env} {df : List ADf} {H : Heap} {b : Bool} {d : Option Nat} {op : AOp} {rest : List AOper} : RunG (.tup []) b d op rest cb rd n Q ks E df H = RR cb rd n Q rest ks (updD E d (.tup [])) df H := rfl
def zB (n : Ino) (f d l : Bool) : Bool := decide ((f = true ∨ (n.size = 0 ∧ n.map.length = 0)) ∧ (d = true ∨ (n.root = 0 ∧ n.parent = 0)) ∧ (l = true ∨ n.target.toList = []))
theorem strne {xo yo : X} {ek : EqK} {a b : ByteArray} : binV .neq ek xo yo (.str a) (.str b) = some (.bool (a.toList != b.toList)) := rfl
theorem zero_px (n : Ino) (m : AV) (hm : MapR m n.map) (f d l : Bool) (H : Heap) : pcx (cbL tab) 78 [inoA n m, .bool f, .bool d, .bool l] H = some (.plain (.bool (zB n f d l))) := by
  refine pcx_N rfl (pc_wp (fi := c78) rfl ?_ (by simp [c78]) (by decide) ?_)
  · simp only [pcOn, List.map_cons, List.map_nil, hfL, hf_lend_sl, hf_lend_int, hf_lend_bool, hf_lend_str, hfL_append, Bool.and_self, Bool.and_true, Bool.true_and, c78, lend_inoA hm, hf_inoA hm]
  unfold c78
  have lb : ∀ b, lend (.bool b) = .bool b := fun _ => rfl
  rw [List.map_cons, List.map_cons, List.map_cons, List.map_cons, List.map_nil, lend_inoA hm, lb, lb, lb]
  obtain ⟨s, rest, tk, rfl, _, _, _⟩ := hm
  have F : (f = false ∧ ¬ n.size = 0 ∧ True) ∨ (f = false ∧ n.size = 0 ∧ ¬ (n.map.length : Int) = 0) ∨ (f = false ∧ n.size = 0 ∧ (n.map.length : Int) = 0) ∨ (f = true ∧ True ∧ True) := by
    cases f
    · by_cases h1 : n.size = 0
      · by_cases h2 : (n.map.length : Int) = 0
        · exact .inr (.inr (.inl ⟨rfl, h1, h2⟩))
        · exact .inr (.inl ⟨rfl, h1, h2⟩)
      · exact .inl ⟨rfl, h1, trivial⟩
    · exact .inr (.inr (.inr ⟨rfl, trivial, trivial⟩))
  have D : (d = false ∧ ¬ n.root = 0 ∧ True) ∨ (d = false ∧ n.root = 0 ∧ ¬ n.parent = 0) ∨ (d = false ∧ n.root = 0 ∧ n.parent = 0) ∨ (d = true ∧ True ∧ True) := by
    cases d <;> by_cases h1 : n.root = 0 <;> by_cases h2 : n.parent = 0 <;> simp [h1, h2]
  have L : (l = false ∧ (n.target.toList != []) = true ∧ ¬ n.target.toList = []) ∨ (l = false ∧ (n.target.toList != []) = false ∧ n.target.toList = []) ∨ (l = true ∧ True ∧ True) := by
    cases l <;> by_cases h1 : n.target.toList = [] <;> simp [h1]
  have ne0 : (([] : List UInt8) != []) = false := rfl
  have ml : (n.map.length = 0) = ((n.map.length : Int) = 0) := by rw [eq_iff_iff]; omega
  rcases F with ⟨rfl, a1, a2⟩ | ⟨rfl, a1, a2⟩ | ⟨rfl, a1, a2⟩ | ⟨rfl, a1, a2⟩ <;> rcases D with ⟨rfl, b1, b2⟩ | ⟨rfl, b1, b2⟩ | ⟨rfl, b1, b2⟩ | ⟨rfl, b1, b2⟩ <;> rcases L with ⟨rfl, c1, c2⟩ | ⟨rfl, c1, c2⟩ | ⟨rfl, c1, c2⟩ <;>
    simp (disch := omega) only [wk, avalE, aactE, evPE, boundE, asNat, bv_seql cellsEq_ii, bv_sneqd cellsEq_ii, readC, allOne, fillL, resE, tupled, ↓reduceIte, Nat.reduceEqDiff, Int.reduceEq, Int.reduceLT, Int.reduceLE, Nat.reduceAdd, Nat.reduceMul, Nat.reduceLT, Nat.reduceLeDiff, reduceCtorEq, inoA, a1, a2, b1, b2, strne, k0, c1, c2, zB, ml, purify, unownT, AV.hf, or_true, true_or, false_or, false_and, and_false, Bool.false_eq_true, runG_un, ne0]
end Go.Proofs.Ytncmflmjlocgiaa
