/- WHETHER A STREAM STANDS AS THE DOCUMENT'S. No condition but those stated. -/
import Derived.Test.YtailfegmnkldoaaS3
import Derived.Test.YtailfegmnkldoaaS4
set_option linter.unusedSimpArgs false
set_option linter.unusedVariables false
set_option linter.unusedSectionVars false
namespace Go.Proofs.Ytailfegmnkldoaa
open Go Go.Am Go.Nam Go.Stm Go.Rec
set_option maxHeartbeats 4000000
set_option maxRecDepth 10000
theorem bv_streq {xo yo : X} {ek : EqK} {a b : ByteArray} : binV .eql ek xo yo (.str a) (.str b) = some (.bool (a.toList == b.toList)) := rfl
theorem num28_px (n : Int) (H : Heap) : pcx (cbL tab) 13 [.int .i64 n] H = some (.plain (.int .i64 n)) := by
  refine pcx_N rfl (pc_wp (fi := c13) rfl rfl (by simp [c13]) (by decide) ?_)
  unfold c13
  rw [List.map_cons, List.map_nil, lend_int]
  simp (disch := omega) only [wk, avalE, aactE, evPE, boundE, asNat, bv_seql cellsEq_ii, bv_sneqd cellsEq_ii, readC, allOne, fillL, resE, tupled, ↓reduceIte, Nat.reduceEqDiff, Int.reduceEq, Int.reduceLT, Int.reduceLE, Nat.reduceAdd, Nat.reduceMul, Nat.reduceLT, Nat.reduceLeDiff, reduceCtorEq, purify, unownT, lend, unown, AV.hf, hfL]
theorem same_ic {H : Heap} {a : Nat} {p : List UInt8} {m : Int} {s : St} (hs : Sat H a p m s) {sz : Nat} {tk : Tk} (h : OkT s.told sz tk) (hl : s.told.length ≤ 100000) :
    ∃ H', (cbL tab).ic 14 [.ptr a 0, .agg (stC p m s (.sl sz s.told.length (encs nmA s.told) tk))] H = some (.ret (.bool true), H') ∧ Still H H' := by
  have hs1 := hs.still (Still.app H [.cells (stC p m s (.sl sz s.told.length (encs nmA s.told) tk))])
  obtain ⟨G, s', t', d1, d3, d2⟩ := told_ic hs1 hl
  have b0 := d2 H.length (.cells (stC p m s (.sl sz s.told.length (encs nmA s.told) tk))) (by rw [List.getElem?_append_right (Nat.le_refl _), Nat.sub_self]; rfl)
  have hsG := hs1.still d2
  have ov := over_ic hsG
  have hlt := (List.getElem?_eq_some_iff.1 b0).1
  have bG : ∀ L : List AObj, (G ++ L)[H.length]? = _ := fun L => (List.getElem?_append_left hlt).trans b0
  have g1 : ∀ (c : AObj) (L : List AObj), (G ++ c :: L)[G.length + 1]? = L[0]? := fun c L => by rw [List.getElem?_append_right (by omega), show G.length + 1 - G.length = 1 by omega]; rfl
  have g2 : ∀ (c d : AObj) (L : List AObj), (G ++ c :: d :: L)[G.length + 2]? = L[0]? := fun c d L => by rw [List.getElem?_append_right (by omega), show G.length + 2 - G.length = 2 by omega]; rfl
  have s1 : ∀ (c : AObj) (L : List AObj) (o : AObj), (G ++ c :: L).set (G.length + 1) o = G ++ c :: L.set 0 o := fun c L o => by rw [List.set_append_right _ _ (by omega), show G.length + 1 - G.length = 1 by omega]; rfl
  have s2 : ∀ (c d : AObj) (L : List AObj) (o : AObj), (G ++ c :: d :: L).set (G.length + 2) o = G ++ c :: d :: L.set 0 o := fun c d L o => by rw [List.set_append_right _ _ (by omega), show G.length + 2 - G.length = 2 by omega]; rfl
  have cu := fun L => cursor_px (hsG.still (Still.app G L))
  have rc := fun H => rcall_px (p := p) (m := m) h H
  have sn := fun H => names_px (k1 := t') (k2 := tk) hl d3 h.1 H
  have ft : (false == true) = false := rfl
  have tf : (true == false) = false := rfl
  have ff : (false == false) = true := rfl
  have ee : (([] : List UInt8) == []) = true := rfl
  unfold stC at bG b0 d1 rc
  have key : ∃ o H', (cbL tab).ic 14 [.ptr a 0, .agg (stC p m s (.sl sz s.told.length (encs nmA s.told) tk))] H = some (o, H') ∧ o = .ret (.bool true) ∧ Still G H' := by
    refine ic_wp (fi := c14) rfl rfl (by simp [c14]) (by decide) ?_
    unfold c14
    unfold stC
    cases ho : s.over with
    | true =>
      have ca := call_over hsG ho
      rw [ho] at bG b0 d1 ov rc
      simp (disch := omega) only [wk, avalE, aactE, evPE, boundE, asNat, bv_seql cellsEq_ii, bv_sneqd cellsEq_ii, readC, allOne, fillL, resE, tupled, ↓reduceIte, Nat.reduceEqDiff, Int.reduceEq, Int.reduceLT, Int.reduceLE, Nat.reduceAdd, Nat.reduceMul, Nat.reduceLT, Nat.reduceLeDiff, reduceCtorEq, d1, ov, ca, bG, g1, g2, s1, s2, cu, rc, sn, num28_px, ft, tf, ff, ee, kemp, runG_un, bv_streq, bs_toList, List.append_assoc, in_none, runE_none ll_none, in_Call, runE_none ll_Call, in_ends, runE_none ll_ends, in_Take, runE_none ll_Take, in_Seek, runE_none ll_Seek, in_Told, runE_none ll_Told, in_Over, runE_none ll_Over, in_Copy, runE_none ll_Copy, in_New, runE_none ll_New, in_told, runE_none ll_told, in_same, runE_none ll_same]
      exact Still.app _ _
    | false =>
      have ca := call_ic hsG ho
      rw [ho] at bG b0 d1 ov rc
      have pp : (p == p) = true := by simp
      simp (disch := omega) only [wk, avalE, aactE, evPE, boundE, asNat, bv_seql cellsEq_ii, bv_sneqd cellsEq_ii, readC, allOne, fillL, resE, tupled, ↓reduceIte, Nat.reduceEqDiff, Int.reduceEq, Int.reduceLT, Int.reduceLE, Nat.reduceAdd, Nat.reduceMul, Nat.reduceLT, Nat.reduceLeDiff, reduceCtorEq, d1, ov, ca, bG, g1, g2, s1, s2, cu, rc, sn, num28_px, ft, tf, ff, ee, pp, kemp, runG_un, bv_streq, bs_toList, List.append_assoc, in_none, runE_none ll_none, in_Call, runE_none ll_Call, in_ends, runE_none ll_ends, in_Take, runE_none ll_Take, in_Seek, runE_none ll_Seek, in_Told, runE_none ll_Told, in_Over, runE_none ll_Over, in_Copy, runE_none ll_Copy, in_New, runE_none ll_New, in_told, runE_none ll_told, in_same, runE_none ll_same]
      exact ⟨rfl, Still.app _ _⟩
  obtain ⟨o, H', k1, rfl, k2⟩ := key
  exact ⟨H', k1, ((Still.app H _).trans d2).trans k2⟩
end Go.Proofs.Ytailfegmnkldoaa
