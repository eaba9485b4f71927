/- AN ANSWER. No condition but those stated. -/
import Derived.Test.YtailfegmnkldoaaS1
import Derived.Test.YtailfegmnkldoaaCG1
set_option linter.unusedSimpArgs false
set_option linter.unusedVariables false
set_option linter.unusedSectionVars false
namespace Go.Proofs.Ytailfegmnkldoaa
open Go Go.Am Go.Nam Go.Stm Go.Rec
set_option maxHeartbeats 4000000
set_option maxRecDepth 10000
theorem in_ends1 {args : List AV} {H : Heap} : pcx (cbL tab) 83 args H = none := pcx_none rfl (pc_none (fi := c83) rfl rfl)
theorem ll_ends1 : (cbL tab).lent 83 = false := rfl
theorem in_ends2 {args : List AV} {H : Heap} : pcx (cbL tab) 84 args H = none := pcx_none rfl (pc_none (fi := c84) rfl rfl)
theorem ll_ends2 : (cbL tab).lent 84 = false := rfl
theorem ends1_ic {H : Heap} {k : Nat} {x : Ac} (h : H[k]? = some (.cells x.ans)) : (cbL tab).ic 83 [.ptr k 0] H = some (.ret (.bool (decide (¬ x.errno = 0))), H) := by
  unfold Ac.ans at h
  have : ∃ o H', (cbL tab).ic 83 [.ptr k 0] H = some (o, H') ∧ o = .ret (.bool (decide (¬ x.errno = 0))) ∧ H' = H := by
    refine ic_wp (fi := c83) rfl rfl (by simp [c83]) (by decide) ?_
    unfold c83
    simp (disch := omega) only [wk, avalE, aactE, evPE, boundE, asNat, bv_seql cellsEq_ii, bv_sneqd cellsEq_ii, readC, allOne, fillL, resE, tupled, ↓reduceIte, Nat.reduceEqDiff, Int.reduceEq, Int.reduceLT, Int.reduceLE, Nat.reduceAdd, Nat.reduceMul, Nat.reduceLT, Nat.reduceLeDiff, reduceCtorEq, h]
  obtain ⟨o, H', h, rfl, rfl⟩ := this
  exact h
theorem ends2_ic {H : Heap} {k : Nat} {x : Ac} (h : H[k]? = some (.cells x.ans)) : (cbL tab).ic 84 [.ptr k 0] H = some (.ret (.bool (decide ((x.names.length : Int) = 0))), H) := by
  unfold Ac.ans at h
  have : ∃ o H', (cbL tab).ic 84 [.ptr k 0] H = some (o, H') ∧ o = .ret (.bool (decide ((x.names.length : Int) = 0))) ∧ H' = H := by
    refine ic_wp (fi := c84) rfl rfl (by simp [c84]) (by decide) ?_
    unfold c84
    simp (disch := omega) only [wk, avalE, aactE, evPE, boundE, asNat, bv_seql cellsEq_ii, bv_sneqd cellsEq_ii, readC, allOne, fillL, resE, tupled, ↓reduceIte, Nat.reduceEqDiff, Int.reduceEq, Int.reduceLT, Int.reduceLE, Nat.reduceAdd, Nat.reduceMul, Nat.reduceLT, Nat.reduceLeDiff, reduceCtorEq, h]
  obtain ⟨o, H', h, rfl, rfl⟩ := this
  exact h
theorem ends_ic {H : Heap} {a : Nat} {p : List UInt8} {m : Int} {s : St} (hs : Sat H a p m s) (x : Ac) : ∃ H', (cbL tab).ic 53 [.ptr a 0, .agg x.ans] H = some (.ret (.bool (endsB x)), H') ∧ Sat H' a p m (if endsB x then { s with over := true, errno := x.errno } else s) ∧ Keep a H H' := by
  obtain ⟨sz, tk, h1, h2, h3⟩ := hs
  have h3' := h3
  unfold goC at h3
  have hlt := (List.getElem?_eq_some_iff.1 h3).1
  have a1 : ∀ (L : List AObj), (H ++ L)[a]? = _ := fun L => (List.getElem?_append_left hlt).trans h3
  have a2 : ∀ (L : List AObj) (o : AObj), ((H ++ L).set a o)[a]? = some o := fun L o => set_eq (a1 L)
  have g0 : ∀ (L : List AObj), (H ++ L)[H.length]? = L[0]? := fun L => by rw [List.getElem?_append_right (by omega)]; congr 1; omega
  have b0 : (H ++ [AObj.cells x.ans])[H.length]? = some (.cells x.ans) := g0 _
  have c1 := ends1_ic b0
  have c2 := ends2_ic b0
  have fv : ∀ o o', floatV [.ptr H.length o] [.ptr a o'] = true := fun o o' => by rw [floatV_p (by rw [offP_ptr (by omega)]; rfl)]; exact floatV_nil
  have key : ∃ o H', (cbL tab).ic 53 [.ptr a 0, .agg x.ans] H = some (o, H') ∧ o = .ret (.bool (endsB x)) ∧ Sat H' a p m (if endsB x then { s with over := true, errno := x.errno } else s) ∧ Keep a H H' := by
    refine ic_wp (fi := c53) rfl rfl (by simp [c53]) (by decide) ?_
    unfold c53
    unfold Ac.ans at c1 c2 ⊢
    have i1 : Int.toNat 1 = 1 := rfl
    have ok2 : ∀ s' : St, s'.told = s.told → ∀ L, Sat ((H ++ L).set a (.cells (goC p m s' (.sl sz s.told.length (encs nmA s.told) tk)))) a p m s' := fun s' e L => ⟨sz, tk, by rw [e]; exact h1, by rw [e]; exact h2, by rw [e]; exact a2 _ _⟩
    have kk : ∀ L o, Keep a H ((H ++ L).set a o) := fun L o => (Keep.app a H L).trans (Keep.set a _ _)
    by_cases e1 : x.errno = 0
    · rw [e1] at c1 c2 ⊢
      by_cases e2 : x.names = []
      · have eb : endsB x = true := by unfold endsB; rw [e1, e2]; rfl
        have e3 : (x.names.length : Int) = 0 := by rw [e2]; rfl
        rw [eb]
        simp (disch := omega) only [wk, avalE, aactE, evPE, boundE, asNat, bv_seql cellsEq_ii, bv_sneqd cellsEq_ii, readC, allOne, fillL, resE, tupled, ↓reduceIte, Nat.reduceEqDiff, Int.reduceEq, Int.reduceLT, Int.reduceLE, Nat.reduceAdd, Nat.reduceMul, Nat.reduceLT, Nat.reduceLeDiff, reduceCtorEq]
        rw [ret_loop]
        simp (disch := omega) only [wk, avalE, aactE, evPE, boundE, asNat, bv_seql cellsEq_ii, bv_sneqd cellsEq_ii, readC, allOne, fillL, resE, tupled, ↓reduceIte, Nat.reduceEqDiff, Int.reduceEq, Int.reduceLT, Int.reduceLE, Nat.reduceAdd, Nat.reduceMul, Nat.reduceLT, Nat.reduceLeDiff, reduceCtorEq, c1, in_ends1, runE_none ll_ends1, in_ends2, runE_none ll_ends2, Int.toNat_zero, i1, Int.reduceAdd, g0, a1, a2, fv, List.set_set, Bool.false_eq_true]
        refine ret_again (by decide) (.inl rfl) ?_
        rw [ret_loop]
        simp (disch := omega) only [wk, avalE, aactE, evPE, boundE, asNat, bv_seql cellsEq_ii, bv_sneqd cellsEq_ii, readC, allOne, fillL, resE, tupled, ↓reduceIte, Nat.reduceEqDiff, Int.reduceEq, Int.reduceLT, Int.reduceLE, Nat.reduceAdd, Nat.reduceMul, Nat.reduceLT, Nat.reduceLeDiff, reduceCtorEq, c2, e3, in_ends1, runE_none ll_ends1, in_ends2, runE_none ll_ends2, Int.toNat_zero, i1, Int.reduceAdd, g0, a1, a2, fv, List.set_set, Bool.false_eq_true]
        have := ok2 { s with over := true, errno := x.errno } rfl
        rw [e1] at this
        exact ⟨this _, kk _ _⟩
      · have e3 : ¬ (x.names.length : Int) = 0 := by have : x.names.length ≠ 0 := fun e => e2 (List.eq_nil_of_length_eq_zero e); omega
        have eb : endsB x = false := by unfold endsB; rw [e1]; have : x.names.isEmpty = false := by cases h : x.names with
                                          | nil => exact absurd h e2
                                          | cons => rfl
                                        rw [this]; rfl
        rw [eb]
        simp (disch := omega) only [wk, avalE, aactE, evPE, boundE, asNat, bv_seql cellsEq_ii, bv_sneqd cellsEq_ii, readC, allOne, fillL, resE, tupled, ↓reduceIte, Nat.reduceEqDiff, Int.reduceEq, Int.reduceLT, Int.reduceLE, Nat.reduceAdd, Nat.reduceMul, Nat.reduceLT, Nat.reduceLeDiff, reduceCtorEq]
        rw [ret_loop]
        simp (disch := omega) only [wk, avalE, aactE, evPE, boundE, asNat, bv_seql cellsEq_ii, bv_sneqd cellsEq_ii, readC, allOne, fillL, resE, tupled, ↓reduceIte, Nat.reduceEqDiff, Int.reduceEq, Int.reduceLT, Int.reduceLE, Nat.reduceAdd, Nat.reduceMul, Nat.reduceLT, Nat.reduceLeDiff, reduceCtorEq, c1, in_ends1, runE_none ll_ends1, in_ends2, runE_none ll_ends2, Int.toNat_zero, i1, Int.reduceAdd, g0, a1, a2, fv, List.set_set, Bool.false_eq_true]
        refine ret_again (by decide) (.inl rfl) ?_
        rw [ret_loop]
        simp (disch := omega) only [wk, avalE, aactE, evPE, boundE, asNat, bv_seql cellsEq_ii, bv_sneqd cellsEq_ii, readC, allOne, fillL, resE, tupled, ↓reduceIte, Nat.reduceEqDiff, Int.reduceEq, Int.reduceLT, Int.reduceLE, Nat.reduceAdd, Nat.reduceMul, Nat.reduceLT, Nat.reduceLeDiff, reduceCtorEq, c2, e3, in_ends1, runE_none ll_ends1, in_ends2, runE_none ll_ends2, Int.toNat_zero, i1, Int.reduceAdd, g0, a1, a2, fv, List.set_set, Bool.false_eq_true]
        refine ret_again (by decide) (.inl rfl) ?_
        rw [ret_loop]
        simp (disch := omega) only [wk, avalE, aactE, evPE, boundE, asNat, bv_seql cellsEq_ii, bv_sneqd cellsEq_ii, readC, allOne, fillL, resE, tupled, ↓reduceIte, Nat.reduceEqDiff, Int.reduceEq, Int.reduceLT, Int.reduceLE, Nat.reduceAdd, Nat.reduceMul, Nat.reduceLT, Nat.reduceLeDiff, reduceCtorEq, in_ends1, runE_none ll_ends1, in_ends2, runE_none ll_ends2, Int.toNat_zero, i1, Int.reduceAdd, g0, a1, a2, fv, List.set_set, Bool.false_eq_true]
        exact ⟨⟨sz, tk, h1, h2, by rw [List.getElem?_append_left hlt]; exact h3'⟩, Keep.app _ _ _⟩
    · have eb : endsB x = true := by unfold endsB; have : (x.errno == 0) = false := by simpa using e1
                                     rw [this]; rfl
      rw [eb]
      simp (disch := omega) only [wk, avalE, aactE, evPE, boundE, asNat, bv_seql cellsEq_ii, bv_sneqd cellsEq_ii, readC, allOne, fillL, resE, tupled, ↓reduceIte, Nat.reduceEqDiff, Int.reduceEq, Int.reduceLT, Int.reduceLE, Nat.reduceAdd, Nat.reduceMul, Nat.reduceLT, Nat.reduceLeDiff, reduceCtorEq]
      rw [ret_loop]
      simp (disch := omega) only [wk, avalE, aactE, evPE, boundE, asNat, bv_seql cellsEq_ii, bv_sneqd cellsEq_ii, readC, allOne, fillL, resE, tupled, ↓reduceIte, Nat.reduceEqDiff, Int.reduceEq, Int.reduceLT, Int.reduceLE, Nat.reduceAdd, Nat.reduceMul, Nat.reduceLT, Nat.reduceLeDiff, reduceCtorEq, c1, e1, in_ends1, runE_none ll_ends1, in_ends2, runE_none ll_ends2, Int.toNat_zero, i1, Int.reduceAdd, g0, a1, a2, fv, List.set_set, Bool.false_eq_true]
      exact ⟨ok2 { s with over := true, errno := x.errno } rfl _, kk _ _⟩
  obtain ⟨o, H', k1, rfl, k2⟩ := key
  exact ⟨H', k1, k2⟩
theorem behind_px {a b : List Nm} {s1 s2 : Nat} {t1 t2 : Tk} (h1 : a ≠ [] → s1 = 3) (k1 : a ≠ [] → t1 = .ro) (k0 : t1.hf = true) (h2 : b ≠ [] → s2 = 3) (k2 : t2.hf = true) (hb : b ≠ []) (hl : a.length + b.length ≤ 100000) (H : Heap) :
    pcx (cbL tab) 54 [.sl s1 a.length (encs nmA a) t1, .sl s2 b.length (encs nmA b) t2] H = some (.plain (.sl 3 (a ++ b).length (encs nmA (a ++ b)) .ro)) := by
  have l1 : lend (.sl s1 a.length (encs nmA a) t1) = .sl s1 a.length (encs nmA a) t1 := by cases t1 <;> first | rfl | cases k0
  have l2 : lend (.sl s2 b.length (encs nmA b) t2) = .sl s2 b.length (encs nmA b) t2 := by cases t2 <;> first | rfl | cases k2
  have r1 : (a.length = 0 ∨ s1 = 3) ∧ a.length * 3 ≤ (encs nmA a).length := ⟨by by_cases h : a = []; exact .inl (by rw [h]; rfl); exact .inr (h1 h), by rw [lenN]; omega⟩
  have r2 : (b.length = 0 ∨ s2 = 3) ∧ b.length * 3 ≤ (encs nmA b).length := ⟨.inr (h2 hb), by rw [lenN]; omega⟩
  have e1 : (encs nmA a).take (a.length * 3) = encs nmA a := List.take_of_length_le (by rw [lenN]; omega)
  have e2 : (encs nmA b).take (b.length * 3) = encs nmA b := List.take_of_length_le (by rw [lenN]; omega)
  have cc : ∀ H tk, pcx (cbL tab) 85 [.sl 1 2 [.sl s1 a.length (encs nmA a) t1, .sl s2 b.length (encs nmA b) t2] tk] H = some (.plain (.sl 3 (a ++ b).length (encs nmA (a ++ b)) .ro)) := fun H tk => by
    refine pcx_N rfl (pc_con (g := concC) rfl rfl ?_)
    have hr : rowsA [.sl s1 a.length (encs nmA a) t1, .sl s2 b.length (encs nmA b) t2] = some [encs nmA a, encs nmA b] := by
      simp only [rowsA, r1, r2, if_true, and_self, Option.map_some, e1, e2]
    have hf : ([encs nmA a, encs nmA b] : List (List AV)).flatten = encs nmA (a ++ b) := by rw [encs_append]; simp
    unfold concC
    have ht : ([.sl s1 a.length (encs nmA a) t1, .sl s2 b.length (encs nmA b) t2] : List AV).take 2 = [.sl s1 a.length (encs nmA a) t1, .sl s2 b.length (encs nmA b) t2] := rfl
    simp only [ht, hr, hf]
    have hn : (encs nmA (a ++ b)).length = (a ++ b).length * 3 := lenN _
    have hb0 : b.length ≠ 0 := fun e => hb (List.eq_nil_of_length_eq_zero e)
    have hz : ¬ encs nmA (a ++ b) = [] := fun h => by rw [h, List.length_append] at hn; simp at hn; omega
    have hc : 0 < 2 ∧ 2 ≤ ([.sl s1 a.length (encs nmA a) t1, .sl s2 b.length (encs nmA b) t2] : List AV).length ∧ 2 ≤ 4294967296 ∧ (encs nmA (a ++ b)).length ≤ 4294967296 := ⟨by omega, by simp, by omega, by rw [hn, List.length_append]; omega⟩
    have hd : (a ++ b).length * 3 / 3 = (a ++ b).length := by omega
    rw [if_pos hc, if_neg hz, hn, hd]
  refine pcx_N rfl (pc_wp (fi := c54) rfl ?_ (by simp [c54]) (by decide) ?_)
  · show hfL [lend _, lend _] = true
    rw [l1, l2]
    simp [hfL, AV.hf, hf_nmA, k0, k2]
  unfold c54
  rw [List.map_cons, List.map_cons, List.map_nil, l1, l2]
  simp (disch := omega) only [wk, avalE, aactE, evPE, boundE, asNat, bv_seql cellsEq_ii, bv_sneqd cellsEq_ii, readC, allOne, fillL, resE, tupled, ↓reduceIte, Nat.reduceEqDiff, Int.reduceEq, Int.reduceLT, Int.reduceLE, Nat.reduceAdd, Nat.reduceMul, Nat.reduceLT, Nat.reduceLeDiff, reduceCtorEq, cc, purify, unownT, lend, unown, AV.hf, hfL, hf_nmA, Tk.hf]
theorem take_ic {H : Heap} {a : Nat} {p : List UInt8} {m : Int} {s : St} (hs : Sat H a p m s) (x : Ac) (hx : x.ok) (hl : s.told.length + x.names.length ≤ 100000) :
    ∃ H', (cbL tab).ic 16 [.ptr a 0, .agg x.ans] H = some (.ret (.int .i64 (if s.over then 5 else 0)), H') ∧ Sat H' a p m (takeM s x) ∧ Keep a H H' := by
  have hsb : Sat (H ++ [.cells x.ans]) a p m s := hs.still (Still.app _ _)
  obtain ⟨H2, q1, q2, q3⟩ := ends_ic hsb x
  have hs' := hsb
  obtain ⟨sz, tk, h1, h2, h3⟩ := hs'
  obtain ⟨_, _, _, _, h0⟩ := hs
  have hlt := (List.getElem?_eq_some_iff.1 h0).1
  have g0 : (H ++ [AObj.cells x.ans])[H.length]? = some (.cells x.ans) := by rw [List.getElem?_append_right (by omega)]; simp
  have b0 := q3.2 _ _ (by omega) g0
  unfold goC at h3
  have n0 := none_ic h3
  have key : ∃ o H', (cbL tab).ic 16 [.ptr a 0, .agg x.ans] H = some (o, H') ∧ o = .ret (.int .i64 (if s.over then 5 else 0)) ∧ Sat H' a p m (takeM s x) ∧ Keep a H H' := by
    refine ic_wp (fi := c16) rfl rfl (by simp [c16]) (by decide) ?_
    unfold c16
    unfold takeM
    cases ho : s.over with
    | true =>
      rw [ho] at h3
      unfold Ac.ans at h3 n0 hsb ⊢
      simp (disch := omega) only [wk, avalE, aactE, evPE, boundE, asNat, bv_seql cellsEq_ii, bv_sneqd cellsEq_ii, readC, allOne, fillL, resE, tupled, ↓reduceIte, Nat.reduceEqDiff, Int.reduceEq, Int.reduceLT, Int.reduceLE, Nat.reduceAdd, Nat.reduceMul, Nat.reduceLT, Nat.reduceLeDiff, reduceCtorEq, h3, n0, in_none, runE_none ll_none, in_Call, runE_none ll_Call, in_ends, runE_none ll_ends, in_Take, runE_none ll_Take, in_Seek, runE_none ll_Seek, in_Told, runE_none ll_Told, in_Over, runE_none ll_Over, in_Copy, runE_none ll_Copy, in_New, runE_none ll_New, in_told, runE_none ll_told, in_same, runE_none ll_same]
      exact ⟨hsb, Keep.app _ _ _⟩
    | false =>
      rw [ho] at h3
      cases eb : endsB x with
      | true =>
        rw [eb] at q1 q2
        unfold Ac.ans at h3 n0 g0 q1 ⊢
        simp (disch := omega) only [wk, avalE, aactE, evPE, boundE, asNat, bv_seql cellsEq_ii, bv_sneqd cellsEq_ii, readC, allOne, fillL, resE, tupled, ↓reduceIte, Nat.reduceEqDiff, Int.reduceEq, Int.reduceLT, Int.reduceLE, Nat.reduceAdd, Nat.reduceMul, Nat.reduceLT, Nat.reduceLeDiff, reduceCtorEq, h3, n0, g0, q1, in_none, runE_none ll_none, in_Call, runE_none ll_Call, in_ends, runE_none ll_ends, in_Take, runE_none ll_Take, in_Seek, runE_none ll_Seek, in_Told, runE_none ll_Told, in_Over, runE_none ll_Over, in_Copy, runE_none ll_Copy, in_New, runE_none ll_New, in_told, runE_none ll_told, in_same, runE_none ll_same, Bool.false_eq_true]
        exact ⟨q2, (Keep.app a H _).trans q3⟩
      | false =>
        rw [eb] at q1 q2
        have hne : x.names ≠ [] := by
          intro e
          unfold endsB at eb
          rw [e] at eb
          simp at eb
        obtain ⟨sz2, tk2, m1, m2, m3⟩ := q2
        simp only [Bool.false_eq_true, if_false] at m1 m2 m3
        unfold goC at m3
        rw [ho] at m3
        have tko : s.told ≠ [] → tk2 = .ro := fun h => by rcases m2 with rfl | ⟨_, e⟩; rfl; exact absurd e h
        have tkh : tk2.hf = true := by rcases m2 with rfl | ⟨rfl, _⟩ <;> rfl
        have bh := fun H => behind_px (H := H) m1 tko tkh hx.1 hx.2.1 hne hl
        have fv : floatV [.ptr H.length 8] [.ptr a 7] = true := by rw [floatV_p (by rw [offP_ptr (by omega)]; rfl)]; exact floatV_nil
        have m4 : ∀ o, (H2.set a o)[a]? = some o := fun o => set_eq m3
        unfold Ac.ans at h3 n0 g0 q1 b0 ⊢
        simp (disch := omega) only [wk, avalE, aactE, evPE, boundE, asNat, bv_seql cellsEq_ii, bv_sneqd cellsEq_ii, readC, allOne, fillL, resE, tupled, ↓reduceIte, Nat.reduceEqDiff, Int.reduceEq, Int.reduceLT, Int.reduceLE, Nat.reduceAdd, Nat.reduceMul, Nat.reduceLT, Nat.reduceLeDiff, reduceCtorEq, h3, n0, g0, q1, m3, b0, bh, fv, m4, in_none, runE_none ll_none, in_Call, runE_none ll_Call, in_ends, runE_none ll_ends, in_Take, runE_none ll_Take, in_Seek, runE_none ll_Seek, in_Told, runE_none ll_Told, in_Over, runE_none ll_Over, in_Copy, runE_none ll_Copy, in_New, runE_none ll_New, in_told, runE_none ll_told, in_same, runE_none ll_same, Bool.false_eq_true, List.set_set]
        refine ⟨⟨3, .ro, fun _ => rfl, .inl rfl, ?_⟩, ((Keep.app a H _).trans q3).trans (Keep.set a _ _)⟩
        rw [m4]
        unfold goC
        dsimp only
        rw [List.length_append]
  obtain ⟨o, H', k1, rfl, k2⟩ := key
  exact ⟨H', k1, k2⟩
end Go.Proofs.Ytailfegmnkldoaa
