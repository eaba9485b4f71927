/- THE WALKS OF caught AND THE SEARCHES. No condition but those stated. -/
import Derived.Test.YtailfegmnkldoaaS5
set_option linter.unusedSimpArgs false
set_option linter.unusedVariables false
set_option linter.unusedSectionVars false
namespace Go.Proofs.Ytailfegmnkldoaa
open Go Go.Am Go.Slots
set_option maxHeartbeats 2000000
set_option maxRecDepth 10000
theorem caught_ret (a : Nat) (f : FuncId) (caps : List AV) (H : Heap) : leaveA tab (cbL tab) [.call 142 [.ptr a 0, .fn f caps]] .returning H = some (.returning, H) := by
  rfl
theorem caught_pan (a : Nat) (f : FuncId) (caps : List AV) (H H1 : Heap) (e : Int) (y v : AV) (h : enterA (cbL tab) f caps H = some (.ret v, H1)) (hy : H1[a]? = some (.cells [y])) :
    leaveA tab (cbL tab) [.call 142 [.ptr a 0, .fn f caps]] (.panicking [(.iface 25 (.int .i64 e), false)]) H = some (.returning, H1.set a (.cells [.int .i64 e])) := by
  have ht : tab 142 = some c142 := rfl
  simp [leaveA, ht, bodyD, c142, acodeD, aregionD, hasRecov, acode, aregion, aval, aact, putD, X.ev, fr0, wantedA, binV, eqV, unV, h, hy, AV.flat, allOne, AV.one, resA, settleA, isNili]
theorem clearPut (o : Nat) (x : AV) (H : Heap) (hx : H[o]? = some (.cells [x])) : enterA (cbL tab) 143 [.ptr o 0] H = some (.ret (.tup []), H.set o (.cells [.sl 0 0 [] .z])) := by
  have : ∃ q H', (cbL tab).ic 143 [.ptr o 0] H = some (q, H') ∧ q = .ret (.tup []) ∧ H' = H.set o (.cells [.sl 0 0 [] .z]) := by
    refine ic_wp (fi := c143) rfl rfl (by simp [c143]) (by decide) ?_
    unfold c143
    simp (disch := omega) only [wk, avalE, aactE, evPE, boundE, asNat, bv_seql cellsEq_ii, bv_sneqd cellsEq_ii, readC, allOne, fillL, resE, tupled, ↓reduceIte, Nat.reduceEqDiff, Int.reduceEq, Int.reduceLT, Int.reduceLE, Nat.reduceAdd, Nat.reduceMul, Nat.reduceLT, Nat.reduceLeDiff, reduceCtorEq, hx, List.append_nil]
  obtain ⟨q, H', h, rfl, rfl⟩ := this
  exact enterA_ic rfl (pc_none (fi := c143) rfl rfl) h
theorem comes1_ic (q : Int × Int) (id : Nat) (p1 p2 : Int) (H : Heap) (h : H[id]? = some (.cells [.int .u64 p1, .int .u64 p2])) :
    pcx (cbL tab) 175 [.agg (pairA q), .ptr id 0] H = none ∧ (cbL tab).ic 175 [.agg (pairA q), .ptr id 0] H = some (.ret (.bool (decide (q.2 = p2))), H ++ [.cells (pairA q)]) := by
  refine ⟨pcx_none rfl (pc_none (fi := c175) rfl rfl), ?_⟩
  have : ∃ o H', (cbL tab).ic 175 [.agg (pairA q), .ptr id 0] H = some (o, H') ∧ o = .ret (.bool (decide (q.2 = p2))) ∧ H' = H ++ [.cells (pairA q)] := by
    refine ic_wp (fi := c175) rfl rfl (by simp [c175]) (by decide) ?_
    unfold c175
    have e1 : ∀ o : AObj, (H ++ [o])[H.length]? = some o := fun o => by simp
    have e0 : ∀ o : AObj, (H ++ [o])[id]? = H[id]? := fun o => List.getElem?_append_left (by have := (List.getElem?_eq_some_iff.1 h).1; exact this)
    simp (disch := omega) only [wk, avalE, aactE, evPE, boundE, asNat, bv_seql cellsEq_ii, bv_sneqd cellsEq_ii, readC, allOne, fillL, resE, tupled, ↓reduceIte, Nat.reduceEqDiff, Int.reduceEq, Int.reduceLT, Int.reduceLE, Nat.reduceAdd, Nat.reduceMul, Nat.reduceLT, Nat.reduceLeDiff, reduceCtorEq, pairA, e1, e0, h]
  obtain ⟨o, H', h, rfl, rfl⟩ := this
  exact h
theorem l83 : (cbL tab).lent 175 = false := rfl
theorem index_ic (l : List (Int × Int)) (s : Nat) (tk : Tk) (id : Nat) (p1 p2 : Int) (H : Heap) (hn : l.length ≤ 1000) (hz : l ≠ [] → s = 2) (h : H[id]? = some (.cells [.int .u64 p1, .int .u64 p2])) :
    ∃ o H', (cbL tab).ic 152 [.sl s l.length (encs pairA l) tk, .fn 175 [.ptr id 0]] H = some (o, H') ∧
      ((∃ v, o = .ret (.int .i64 v) ∧ (0 ≤ v ↔ hasL l p2)) ∧ (∀ (i : Nat) (q : AObj), H[i]? = some q → H'[i]? = some q) ∧ H.length ≤ H'.length) := by
  refine ic_wp (fi := c152) rfl (by simp [pcOn, c152, hfL, lend, unown, AV.hf]) (by simp [c152]) (by decide) ?_
  unfold c152
  simp (disch := omega) only [wk, avalE, aactE, evPE, boundE, asNat, bv_seql cellsEq_ii, bv_sneqd cellsEq_ii, readC, allOne, fillL, resE, tupled, ↓reduceIte, Nat.reduceEqDiff, Int.reduceEq, Int.reduceLT, Int.reduceLE, Nat.reduceAdd, Nat.reduceMul, Nat.reduceLT, Nat.reduceLeDiff, reduceCtorEq]
  refine loop_ind (fun (x : List (Int × Int) × List (Int × Int)) E df H1 => l = x.1 ++ x.2 ∧ (hasL l p2 ↔ hasL x.2 p2) ∧ E 0 = .sl s l.length (encs pairA l) tk ∧ E 1 = .fn 175 [.ptr id 0] ∧ E 7 = .int .i64 (l.length : Nat) ∧ E 8 = .int .i64 (x.1.length : Nat) ∧ df = [] ∧
      (∀ (i : Nat) (q : AObj), H[i]? = some q → H1[i]? = some q) ∧ H.length ≤ H1.length) (fun x => x.2.length) ([], l) (by decide) (.inl rfl) ⟨rfl, Iff.rfl, rfl, rfl, rfl, rfl, rfl, fun _ _ h => h, Nat.le_refl _⟩ ?_
  intro ⟨pre, suf⟩ E df H1 ih hP
  obtain ⟨a1, a2, E0, E1, E7, E8, hdf, hup, hle⟩ := hP
  dsimp only at a1 a2 E8
  subst hdf a1
  simp only [List.length_append] at hn E7
  cases suf with
  | nil =>
    simp only [List.length_nil, Nat.add_zero] at E7
    simp (disch := omega) only [wk, avalE, aactE, evPE, boundE, asNat, bv_seql cellsEq_ii, bv_sneqd cellsEq_ii, readC, allOne, fillL, resE, tupled, ↓reduceIte, Nat.reduceEqDiff, Int.reduceEq, Int.reduceLT, Int.reduceLE, Nat.reduceAdd, Nat.reduceMul, Nat.reduceLT, Nat.reduceLeDiff, reduceCtorEq, E0, E1, E7, E8]
    refine ⟨⟨_, rfl, ?_⟩, hup, hle⟩
    rw [a2]
    simp [hasL]
  | cons x r =>
    simp only [List.length_cons] at hn E7
    obtain rfl := hz (by simp)
    obtain ⟨k, q⟩ := x
    obtain ⟨c1, c2⟩ := comes1_ic (k, q) id p1 p2 H1 (hup _ _ h)
    simp only [pairA] at c1 c2
    rw [hasL_cons] at a2
    have up2 : ∀ (i : Nat) (o : AObj), H[i]? = some o → (H1 ++ [AObj.cells [.int .u64 k, .int .u64 q]])[i]? = some o := fun i o ho => by
      have := hup i o ho
      rw [List.getElem?_append_left (List.getElem?_eq_some_iff.1 this).1]; exact this
    by_cases hx : q = p2
    · subst hx
      simp (disch := omega) only [wk, avalE, aactE, evPE, boundE, asNat, bv_seql cellsEq_ii, bv_sneqd cellsEq_ii, readC, allOne, fillL, resE, tupled, ↓reduceIte, Nat.reduceEqDiff, Int.reduceEq, Int.reduceLT, Int.reduceLE, Nat.reduceAdd, Nat.reduceMul, Nat.reduceLT, Nat.reduceLeDiff, reduceCtorEq, E0, E1, E7, E8, pairA, c1, c2, runE_none l83]
      refine ⟨⟨_, rfl, ?_⟩, up2, by first | omega | (simp; omega)⟩
      rw [a2]
      simp
    · simp (disch := omega) only [wk, avalE, aactE, evPE, boundE, asNat, bv_seql cellsEq_ii, bv_sneqd cellsEq_ii, readC, allOne, fillL, resE, tupled, ↓reduceIte, Nat.reduceEqDiff, Int.reduceEq, Int.reduceLT, Int.reduceLE, Nat.reduceAdd, Nat.reduceMul, Nat.reduceLT, Nat.reduceLeDiff, reduceCtorEq, E0, E1, E7, E8, pairA, c1, c2, runE_none l83, hx]
      refine ih (pre ++ [(k, q)], r) _ _ _ (by simp) ?_
      exact ⟨by simp, by rw [a2]; simp [hx], by simp only [en, ↓reduceIte, Nat.reduceEqDiff, E0], by simp only [en, ↓reduceIte, Nat.reduceEqDiff, E1], by simp only [en, ↓reduceIte, Nat.reduceEqDiff, E7], by simp only [en, ↓reduceIte, Nat.reduceEqDiff], rfl, up2, by simp; omega⟩
theorem l91 : (cbL tab).lent 152 = false := rfl
theorem contains_ic (l : List (Int × Int)) (s : Nat) (tk : Tk) (id : Nat) (p1 p2 : Int) (H : Heap) (hn : l.length ≤ 1000) (hz : l ≠ [] → s = 2) (h : H[id]? = some (.cells [.int .u64 p1, .int .u64 p2])) :
    ∃ H', (cbL tab).ic 92 [.sl s l.length (encs pairA l) tk, .fn 175 [.ptr id 0]] H = some (.ret (.bool (decide (hasL l p2))), H') ∧
      (∀ (i : Nat) (q : AObj), H[i]? = some q → H'[i]? = some q) ∧ H.length ≤ H'.length := by
  obtain ⟨o, H', k1, ⟨v, rfl, hv⟩, k2, k3⟩ := index_ic l s tk id p1 p2 H hn hz h
  have : ∃ o H'', (cbL tab).ic 92 [.sl s l.length (encs pairA l) tk, .fn 175 [.ptr id 0]] H = some (o, H'') ∧ o = .ret (.bool (decide (hasL l p2))) ∧ H'' = H' := by
    refine ic_wp (fi := c92) rfl (by simp [pcOn, c92, hfL, lend, unown, AV.hf]) (by simp [c92]) (by decide) ?_
    unfold c92
    have c1 : ∀ H, pcx (cbL tab) 152 [.sl s l.length (encs pairA l) tk, .fn 175 [.ptr id 0]] H = none := fun H => pcx_none rfl (pc_none (fi := c152) rfl (by simp [pcOn, c152, hfL, lend, unown, AV.hf]))
    simp (disch := omega) only [wk, avalE, aactE, evPE, boundE, asNat, bv_seql cellsEq_ii, bv_sneqd cellsEq_ii, readC, allOne, fillL, resE, tupled, ↓reduceIte, Nat.reduceEqDiff, Int.reduceEq, Int.reduceLT, Int.reduceLE, Nat.reduceAdd, Nat.reduceMul, Nat.reduceLT, Nat.reduceLeDiff, reduceCtorEq, c1, k1, runE_none l91, hv]
  obtain ⟨o, H'', j1, rfl, rfl⟩ := this
  exact ⟨_, j1, k2, k3⟩
theorem find_lt (key : Int) : ∀ (l : List (Int × Int)), risingL l → ∀ (i : Nat) (x : Int × Int), l[i]? = some x → (i < findL' key l ↔ x.1 < key)
  | [], _, i, x, h => by simp at h
  | [y], _, i, x, h => by
    cases i with
    | zero =>
      simp at h; subst h
      simp only [findL']
      split <;> simp_all
    | succ i => simp at h
  | y :: z :: r, hr, i, x, h => by
    have ih := find_lt key (z :: r) hr.2
    by_cases hy : y.1 < key
    · have e : findL' key (y :: z :: r) = findL' key (z :: r) + 1 := by simp [findL', hy]
      rw [e]
      cases i with
      | zero => simp at h; subst h; simp [hy]
      | succ i =>
        rw [List.getElem?_cons_succ] at h
        rw [← ih i x h]
        omega
    · have e : findL' key (y :: z :: r) = 0 := by simp [findL', hy]
      rw [e]
      have big : ∀ (l : List (Int × Int)) (y : Int × Int), risingL (y :: l) → ¬ y.1 < key → ∀ x ∈ l, ¬ x.1 < key := by
        intro l
        induction l with
        | nil => intro y _ _ x hx; simp at hx
        | cons z l ih2 =>
          intro y hr hy x hx
          have hz : ¬ z.1 < key := by have := hr.1; omega
          rcases List.mem_cons.1 hx with rfl | hx
          · exact hz
          · exact ih2 z hr.2 hz x hx
      cases i with
      | zero => simp at h; subst h; simp [hy]
      | succ i =>
        rw [List.getElem?_cons_succ] at h
        have := big (z :: r) y hr hy x (List.mem_of_getElem? h)
        simp [this]
theorem bv_shr1 {ek : EqK} {xo yo : X} {a : Int} : binV .shr ek xo yo (.int .u64 a) (.int .u64 1) = some (.int .u64 (a / 2)) := by
  simp only [binV, binInt]
  rw [if_neg (by omega)]
  have : (2 : Int) ^ (min (1 : Int).toNat IntKind.u64.bits) = 2 := rfl
  rw [this, Int.fdiv_eq_ediv_of_nonneg _ (by omega)]
theorem cmpI_lt (a b : Int) : cmpI a b < 0 ↔ a < b := by unfold cmpI; split <;> (try split) <;> omega
theorem cmpI_eq (a b : Int) : cmpI a b = 0 ↔ a = b := by unfold cmpI; split <;> (try split) <;> omega
theorem bsearch_px (l : List (Int × Int)) (s : Nat) (tk : Tk) (key : Int) (H : Heap) (hn : l.length ≤ 1000) (hz : l ≠ [] → s = 2) (hr : risingL l) :
    pcx (cbL tab) 191 [.sl s l.length (encs pairA l) tk, .int .u64 key, .fn 192 []] H = some (.plain (.tup [.int .i64 (findL' key l : Nat), .bool (decide (keyAtI l (findL' key l) key))])) := by
  obtain ⟨u1, e1, f1⟩ := lend_sl s l.length (encs pairA l) tk
  refine pcx_N rfl (pc_wp (fi := c191) rfl ?_ (by simp [c191]) (by decide) ?_)
  · simp only [pcOn, List.map_cons, List.map_nil, hfL, hf_lend_sl, hf_lend_int, hf_lend_bool, hf_lend_str, hfL_append, Bool.and_self, Bool.and_true, Bool.true_and, c191, hf_pairA]; rfl
  unfold c191
  have el : lend (.fn 192 []) = .fn 192 [] := rfl
  rw [List.map_cons, List.map_cons, List.map_cons, List.map_nil, e1, el, lend_int]
  simp (disch := omega) only [wk, avalE, aactE, evPE, boundE, asNat, bv_seql cellsEq_ii, bv_sneqd cellsEq_ii, readC, allOne, fillL, resE, tupled, ↓reduceIte, Nat.reduceEqDiff, Int.reduceEq, Int.reduceLT, Int.reduceLE, Nat.reduceAdd, Nat.reduceMul, Nat.reduceLT, Nat.reduceLeDiff, reduceCtorEq]
  have hf := findL_le key l
  refine loop_ind (fun (x : Nat × Nat) E df H => x.1 ≤ findL' key l ∧ findL' key l ≤ x.2 ∧ x.2 ≤ l.length ∧ E 0 = .sl s l.length (encs pairA l) u1 ∧ E 1 = .int .u64 key ∧ E 2 = .fn 192 [] ∧ E 8 = .int .i64 (l.length : Nat) ∧ E 9 = .int .i64 (x.1 : Nat) ∧ E 10 = .int .i64 (x.2 : Nat) ∧ df = [] ∧ H = [])
    (fun x => x.2 - x.1) (0, l.length) (by decide) (.inl rfl) ⟨Nat.zero_le _, hf, Nat.le_refl _, rfl, rfl, rfl, rfl, rfl, rfl, rfl, rfl⟩ ?_
  intro ⟨i, j⟩ E df H ih hP
  obtain ⟨a1, a2, a3, E0, E1, E2, E8, E9, E10, hdf, hH⟩ := hP
  dsimp only at a1 a2 a3 E9 E10
  subst hdf hH
  by_cases hij : i < j
  · have hm : (i + j) / 2 < l.length := by omega
    have hx : l[(i + j) / 2]? = some (l[(i + j) / 2]) := List.getElem?_eq_getElem hm
    obtain rfl := hz (by intro e; subst e; simp at hm)
    generalize l[(i + j) / 2] = x at hx
    have hlt := find_lt key l hr _ _ hx
    have d1 := drop_at (f := pairA) l _ hx
    have em : (((i : Int) + j) / 2) = (((i + j) / 2 : Nat) : Int) := by omega
    have c1 := fun H => cmp_px x key H
    simp only [pairA, List.cons_append, List.nil_append] at d1 c1
    by_cases hk : x.1 < key
    · have h2 := (cmpI_lt x.1 key).2 hk
      simp (disch := omega) only [wk, avalE, aactE, evPE, boundE, asNat, bv_seql cellsEq_ii, bv_sneqd cellsEq_ii, readC, allOne, fillL, resE, tupled, ↓reduceIte, Nat.reduceEqDiff, Int.reduceEq, Int.reduceLT, Int.reduceLE, Nat.reduceAdd, Nat.reduceMul, Nat.reduceLT, Nat.reduceLeDiff, reduceCtorEq, E0, E1, E2, E8, E9, E10, bv_shr1, em, d1, c1, h2]
      exact ih ((i + j) / 2 + 1, j) _ _ _ (by simp only; omega) ⟨by simp only; omega, a2, a3, by simp only [en, ↓reduceIte, Nat.reduceEqDiff, E0], by simp only [en, ↓reduceIte, Nat.reduceEqDiff, E1], by simp only [en, ↓reduceIte, Nat.reduceEqDiff, E2], by simp only [en, ↓reduceIte, Nat.reduceEqDiff, E8], by simp only [en, ↓reduceIte, Nat.reduceEqDiff], by simp only [en, ↓reduceIte, Nat.reduceEqDiff, E10], rfl, rfl⟩
    · have h2 : ¬ cmpI x.1 key < 0 := fun h => hk ((cmpI_lt x.1 key).1 h)
      simp (disch := omega) only [wk, avalE, aactE, evPE, boundE, asNat, bv_seql cellsEq_ii, bv_sneqd cellsEq_ii, readC, allOne, fillL, resE, tupled, ↓reduceIte, Nat.reduceEqDiff, Int.reduceEq, Int.reduceLT, Int.reduceLE, Nat.reduceAdd, Nat.reduceMul, Nat.reduceLT, Nat.reduceLeDiff, reduceCtorEq, E0, E1, E2, E8, E9, E10, bv_shr1, em, d1, c1, h2]
      exact ih (i, (i + j) / 2) _ _ _ (by simp only; omega) ⟨a1, by simp only; omega, by simp only; omega, by simp only [en, ↓reduceIte, Nat.reduceEqDiff, E0], by simp only [en, ↓reduceIte, Nat.reduceEqDiff, E1], by simp only [en, ↓reduceIte, Nat.reduceEqDiff, E2], by simp only [en, ↓reduceIte, Nat.reduceEqDiff, E8], by simp only [en, ↓reduceIte, Nat.reduceEqDiff, E9], by simp only [en, ↓reduceIte, Nat.reduceEqDiff], rfl, rfl⟩
  · have hi : findL' key l = i := by omega
    by_cases hil : i < l.length
    · have hx : l[i]? = some (l[i]) := List.getElem?_eq_getElem hil
      obtain rfl := hz (by intro e; subst e; simp at hil)
      generalize l[i] = x at hx
      have d1 := drop_at (f := pairA) l _ hx
      have c1 := fun H => cmp_px x key H
      simp only [pairA, List.cons_append, List.nil_append] at d1 c1
      have hki : keyAtI l i key ↔ cmpI x.1 key = 0 := by rw [cmpI_eq]; simp [keyAtI, hx]
      simp (disch := omega) only [wk, avalE, aactE, evPE, boundE, asNat, bv_seql cellsEq_ii, bv_sneqd cellsEq_ii, readC, allOne, fillL, resE, tupled, ↓reduceIte, Nat.reduceEqDiff, Int.reduceEq, Int.reduceLT, Int.reduceLE, Nat.reduceAdd, Nat.reduceMul, Nat.reduceLT, Nat.reduceLeDiff, reduceCtorEq, E0, E1, E2, E8, E9, E10, d1, c1, hi, hki, purify, unownT, lend, unown, AV.hf, hfL, Bool.and_self]
    · have hki : ¬ keyAtI l i key := by
        have : l[i]? = none := List.getElem?_eq_none (by omega)
        simp [keyAtI, this]
      simp (disch := omega) only [wk, avalE, aactE, evPE, boundE, asNat, bv_seql cellsEq_ii, bv_sneqd cellsEq_ii, readC, allOne, fillL, resE, tupled, ↓reduceIte, Nat.reduceEqDiff, Int.reduceEq, Int.reduceLT, Int.reduceLE, Nat.reduceAdd, Nat.reduceMul, Nat.reduceLT, Nat.reduceLeDiff, reduceCtorEq, E0, E1, E2, E8, E9, E10, hi, hki, purify, unownT, lend, unown, AV.hf, hfL, Bool.and_self]
theorem place_px (l : List (Int × Int)) (s : Nat) (tk : Tk) (key : Int) (H : Heap) (hn : l.length ≤ 1000) (hz : l ≠ [] → s = 2) (hr : risingL l) :
    pcx (cbL tab) 176 [.sl s l.length (encs pairA l) tk, .int .u64 key] H = some (.plain (.tup [.int .i64 (findL' key l : Nat), .bool (decide (keyAtI l (findL' key l) key))])) := by
  obtain ⟨u1, e1, f1⟩ := lend_sl s l.length (encs pairA l) tk
  refine pcx_N rfl (pc_wp (fi := c176) rfl ?_ (by simp [c176]) (by decide) ?_)
  · simp only [pcOn, List.map_cons, List.map_nil, hfL, hf_lend_sl, hf_lend_int, hf_lend_bool, hf_lend_str, hfL_append, Bool.and_self, Bool.and_true, Bool.true_and, c176, hf_pairA]
  unfold c176
  rw [List.map_cons, List.map_cons, List.map_nil, e1, lend_int]
  have b1 := fun H => bsearch_px l s u1 key H hn hz hr
  simp (disch := omega) only [wk, avalE, aactE, evPE, boundE, asNat, bv_seql cellsEq_ii, bv_sneqd cellsEq_ii, readC, allOne, fillL, resE, tupled, ↓reduceIte, Nat.reduceEqDiff, Int.reduceEq, Int.reduceLT, Int.reduceLE, Nat.reduceAdd, Nat.reduceMul, Nat.reduceLT, Nat.reduceLeDiff, reduceCtorEq, b1, purify, unownT, lend, unown, AV.hf, hfL, Bool.and_self]
end Go.Proofs.Ytailfegmnkldoaa
