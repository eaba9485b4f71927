/- THE WALKS OF EXTENTS: which may be. No condition but those stated. -/
import Derived.Test.YtncmflmjlocgiaaI3
set_option linter.unusedSimpArgs false
set_option linter.unusedVariables false
set_option linter.unusedSectionVars false
namespace Go.Proofs.Ytncmflmjlocgiaa
open Go Go.Am Go.Rec Go.Ino
set_option maxHeartbeats 4000000
set_option maxRecDepth 10000
def rightA (x : Ext) : Prop := 0 ≤ x.1 ∧ x.1 < 128 ∧ 1 ≤ x.2.2 ∧ x.2.2 ≤ 128 - x.1
def rightB (x : Ext) : Prop := 1 ≤ x.2.1 ∧ x.2.1 < 2048 ∧ x.2.2 ≤ 2048 - x.2.1
instance (x : Ext) : Decidable (rightA x) := inferInstanceAs (Decidable (_ ∧ _ ∧ _ ∧ _))
instance (x : Ext) : Decidable (rightB x) := inferInstanceAs (Decidable (_ ∧ _ ∧ _))
theorem right_split (x : Ext) : rightM x ↔ rightA x ∧ rightB x := by unfold rightM rightA rightB; constructor <;> (intro h; omega)
def cellsX (x : Ext) : List AV := [.int .i64 x.1, .int .i64 x.2.1, .int .i64 x.2.2]
theorem xright1_ic (id : Nat) (x : Ext) (H : Heap) (h : H[id]? = some (.cells (cellsX x))) :
    pcx (cbL tab) 163 [.ptr id 0] H = none ∧ (cbL tab).ic 163 [.ptr id 0] H = some (.ret (.bool (decide (rightA x))), H) := by
  refine ⟨pcx_none rfl (pc_none (fi := c163) rfl rfl), ?_⟩
  have : ∃ o H', (cbL tab).ic 163 [.ptr id 0] H = some (o, H') ∧ o = .ret (.bool (decide (rightA x))) ∧ H' = H := by
    refine ic_wp (fi := c163) rfl rfl (by simp [c163]) (by decide) ?_
    unfold c163
    unfold cellsX at h
    have e : rightA x ↔ 0 ≤ x.1 ∧ x.1 < 128 ∧ 1 ≤ x.2.2 ∧ x.2.2 ≤ 128 - x.1 := Iff.rfl
    by_cases c1 : 0 ≤ x.1
    case neg =>
      have : ¬ rightA x := by rw [e]; omega
      simp (disch := omega) only [wk, avalE, aactE, evPE, boundE, asNat, bv_seql cellsEq_ii, bv_sneqd cellsEq_ii, readC, allOne, fillL, resE, tupled, ↓reduceIte, Nat.reduceEqDiff, Int.reduceEq, Int.reduceLT, Int.reduceLE, Nat.reduceAdd, Nat.reduceMul, Nat.reduceLT, Nat.reduceLeDiff, reduceCtorEq, h, c1, this]
    by_cases c2 : x.1 < 128
    case neg =>
      have : ¬ rightA x := by rw [e]; omega
      simp (disch := omega) only [wk, avalE, aactE, evPE, boundE, asNat, bv_seql cellsEq_ii, bv_sneqd cellsEq_ii, readC, allOne, fillL, resE, tupled, ↓reduceIte, Nat.reduceEqDiff, Int.reduceEq, Int.reduceLT, Int.reduceLE, Nat.reduceAdd, Nat.reduceMul, Nat.reduceLT, Nat.reduceLeDiff, reduceCtorEq, h, c1, c2, this]
    by_cases c3 : 1 ≤ x.2.2
    case neg =>
      have : ¬ rightA x := by rw [e]; omega
      simp (disch := omega) only [wk, avalE, aactE, evPE, boundE, asNat, bv_seql cellsEq_ii, bv_sneqd cellsEq_ii, readC, allOne, fillL, resE, tupled, ↓reduceIte, Nat.reduceEqDiff, Int.reduceEq, Int.reduceLT, Int.reduceLE, Nat.reduceAdd, Nat.reduceMul, Nat.reduceLT, Nat.reduceLeDiff, reduceCtorEq, h, c1, c2, c3, this]
    by_cases c4 : x.2.2 ≤ 128 - x.1
    case neg =>
      have : ¬ rightA x := by rw [e]; omega
      simp (disch := omega) only [wk, avalE, aactE, evPE, boundE, asNat, bv_seql cellsEq_ii, bv_sneqd cellsEq_ii, readC, allOne, fillL, resE, tupled, ↓reduceIte, Nat.reduceEqDiff, Int.reduceEq, Int.reduceLT, Int.reduceLE, Nat.reduceAdd, Nat.reduceMul, Nat.reduceLT, Nat.reduceLeDiff, reduceCtorEq, h, c1, c2, c3, c4, this]
    have : rightA x := by rw [e]; omega
    simp (disch := omega) only [wk, avalE, aactE, evPE, boundE, asNat, bv_seql cellsEq_ii, bv_sneqd cellsEq_ii, readC, allOne, fillL, resE, tupled, ↓reduceIte, Nat.reduceEqDiff, Int.reduceEq, Int.reduceLT, Int.reduceLE, Nat.reduceAdd, Nat.reduceMul, Nat.reduceLT, Nat.reduceLeDiff, reduceCtorEq, h, c1, c2, c3, c4, this]
  obtain ⟨o, H', h, rfl, rfl⟩ := this
  exact h
theorem xright2_ic (id : Nat) (x : Ext) (H : Heap) (h : H[id]? = some (.cells (cellsX x))) :
    pcx (cbL tab) 164 [.ptr id 0] H = none ∧ (cbL tab).ic 164 [.ptr id 0] H = some (.ret (.bool (decide (rightB x))), H) := by
  refine ⟨pcx_none rfl (pc_none (fi := c164) rfl rfl), ?_⟩
  have : ∃ o H', (cbL tab).ic 164 [.ptr id 0] H = some (o, H') ∧ o = .ret (.bool (decide (rightB x))) ∧ H' = H := by
    refine ic_wp (fi := c164) rfl rfl (by simp [c164]) (by decide) ?_
    unfold c164
    unfold cellsX at h
    have e : rightB x ↔ 1 ≤ x.2.1 ∧ x.2.1 < 2048 ∧ x.2.2 ≤ 2048 - x.2.1 := Iff.rfl
    by_cases c1 : 1 ≤ x.2.1
    case neg =>
      have : ¬ rightB x := by rw [e]; omega
      simp (disch := omega) only [wk, avalE, aactE, evPE, boundE, asNat, bv_seql cellsEq_ii, bv_sneqd cellsEq_ii, readC, allOne, fillL, resE, tupled, ↓reduceIte, Nat.reduceEqDiff, Int.reduceEq, Int.reduceLT, Int.reduceLE, Nat.reduceAdd, Nat.reduceMul, Nat.reduceLT, Nat.reduceLeDiff, reduceCtorEq, h, c1, this]
    by_cases c2 : x.2.1 < 2048
    case neg =>
      have : ¬ rightB x := by rw [e]; omega
      simp (disch := omega) only [wk, avalE, aactE, evPE, boundE, asNat, bv_seql cellsEq_ii, bv_sneqd cellsEq_ii, readC, allOne, fillL, resE, tupled, ↓reduceIte, Nat.reduceEqDiff, Int.reduceEq, Int.reduceLT, Int.reduceLE, Nat.reduceAdd, Nat.reduceMul, Nat.reduceLT, Nat.reduceLeDiff, reduceCtorEq, h, c1, c2, this]
    by_cases c3 : x.2.2 ≤ 2048 - x.2.1
    case neg =>
      have : ¬ rightB x := by rw [e]; omega
      simp (disch := omega) only [wk, avalE, aactE, evPE, boundE, asNat, bv_seql cellsEq_ii, bv_sneqd cellsEq_ii, readC, allOne, fillL, resE, tupled, ↓reduceIte, Nat.reduceEqDiff, Int.reduceEq, Int.reduceLT, Int.reduceLE, Nat.reduceAdd, Nat.reduceMul, Nat.reduceLT, Nat.reduceLeDiff, reduceCtorEq, h, c1, c2, c3, this]
    have : rightB x := by rw [e]; omega
    simp (disch := omega) only [wk, avalE, aactE, evPE, boundE, asNat, bv_seql cellsEq_ii, bv_sneqd cellsEq_ii, readC, allOne, fillL, resE, tupled, ↓reduceIte, Nat.reduceEqDiff, Int.reduceEq, Int.reduceLT, Int.reduceLE, Nat.reduceAdd, Nat.reduceMul, Nat.reduceLT, Nat.reduceLeDiff, reduceCtorEq, h, c1, c2, c3, this]
  obtain ⟨o, H', h, rfl, rfl⟩ := this
  exact h
theorem lxr1 : (cbL tab).lent 163 = false := rfl
theorem lxr2 : (cbL tab).lent 164 = false := rfl
def extV (x : Ext) : AV := .agg (cellsX x)
theorem lend_extV (x : Ext) : lend (extV x) = extV x := rfl
theorem xright_px (x : Ext) (H : Heap) : pcx (cbL tab) 152 [extV x] H = some (.plain (.bool (decide (rightM x)))) := by
  refine pcx_N rfl (pc_wp (fi := c152) rfl rfl (by simp [c152]) (by decide) ?_)
  unfold c152
  rw [List.map_cons, List.map_nil, lend_extV, extV]
  have i2 : ((2 : Nat) : Int) = 2 := rfl
  have i0 : (0 : Int).toNat = 0 := rfl
  have i1 : (1 : Int).toNat = 1 := rfl
  have ea : (0 : Int) + 1 = 1 := rfl
  have eb : (1 : Int) + 1 = 2 := rfl
  obtain ⟨a1, a2⟩ := xright1_ic 0 x [.cells (cellsX x)] rfl
  obtain ⟨b1, b2⟩ := xright2_ic 0 x [.cells (cellsX x)] rfl
  have e := right_split x
  unfold cellsX at a1 a2 b1 b2 ⊢
  simp (disch := omega) only [wk, avalE, aactE, evPE, boundE, asNat, bv_seql cellsEq_ii, bv_sneqd cellsEq_ii, readC, allOne, fillL, resE, tupled, ↓reduceIte, Nat.reduceEqDiff, Int.reduceEq, Int.reduceLT, Int.reduceLE, Nat.reduceAdd, Nat.reduceMul, Nat.reduceLT, Nat.reduceLeDiff, reduceCtorEq, i2]
  rw [ret_loop]
  by_cases h1 : rightA x
  · simp (disch := omega) only [wk, avalE, aactE, evPE, boundE, asNat, bv_seql cellsEq_ii, bv_sneqd cellsEq_ii, readC, allOne, fillL, resE, tupled, ↓reduceIte, Nat.reduceEqDiff, Int.reduceEq, Int.reduceLT, Int.reduceLE, Nat.reduceAdd, Nat.reduceMul, Nat.reduceLT, Nat.reduceLeDiff, reduceCtorEq, a1, a2, i0, ea, runE_none lxr1, h1]
    refine ret_again (by decide) (.inl rfl) ?_
    rw [ret_loop]
    by_cases h2 : rightB x
    · have : rightM x := e.2 ⟨h1, h2⟩
      simp (disch := omega) only [wk, avalE, aactE, evPE, boundE, asNat, bv_seql cellsEq_ii, bv_sneqd cellsEq_ii, readC, allOne, fillL, resE, tupled, ↓reduceIte, Nat.reduceEqDiff, Int.reduceEq, Int.reduceLT, Int.reduceLE, Nat.reduceAdd, Nat.reduceMul, Nat.reduceLT, Nat.reduceLeDiff, reduceCtorEq, b1, b2, i0, i1, eb, runE_none lxr2, h2]
      refine ret_again (by decide) (.inl rfl) ?_
      rw [ret_loop]
      simp (disch := omega) only [wk, avalE, aactE, evPE, boundE, asNat, bv_seql cellsEq_ii, bv_sneqd cellsEq_ii, readC, allOne, fillL, resE, tupled, ↓reduceIte, Nat.reduceEqDiff, Int.reduceEq, Int.reduceLT, Int.reduceLE, Nat.reduceAdd, Nat.reduceMul, Nat.reduceLT, Nat.reduceLeDiff, reduceCtorEq, purify, unownT, AV.hf, this]
    · have : ¬ rightM x := fun h => h2 (e.1 h).2
      simp (disch := omega) only [wk, avalE, aactE, evPE, boundE, asNat, bv_seql cellsEq_ii, bv_sneqd cellsEq_ii, readC, allOne, fillL, resE, tupled, ↓reduceIte, Nat.reduceEqDiff, Int.reduceEq, Int.reduceLT, Int.reduceLE, Nat.reduceAdd, Nat.reduceMul, Nat.reduceLT, Nat.reduceLeDiff, reduceCtorEq, b1, b2, i0, i1, eb, runE_none lxr2, h2, purify, unownT, AV.hf, this]
  · have : ¬ rightM x := fun h => h1 (e.1 h).1
    simp (disch := omega) only [wk, avalE, aactE, evPE, boundE, asNat, bv_seql cellsEq_ii, bv_sneqd cellsEq_ii, readC, allOne, fillL, resE, tupled, ↓reduceIte, Nat.reduceEqDiff, Int.reduceEq, Int.reduceLT, Int.reduceLE, Nat.reduceAdd, Nat.reduceMul, Nat.reduceLT, Nat.reduceLeDiff, reduceCtorEq, a1, a2, i0, ea, runE_none lxr1, h1, purify, unownT, AV.hf, this]
theorem of1_px (x : Ext) (H : Heap) : pcx (cbL tab) 151 [extV x] H = some (.plain (.bool (!decide (rightM x)))) := by
  refine pcx_N rfl (pc_wp (fi := c151) rfl rfl (by simp [c151]) (by decide) ?_)
  unfold c151
  rw [List.map_cons, List.map_nil, lend_extV]
  have p := fun H => xright_px x H
  simp only [extV, cellsX] at p ⊢
  simp (disch := omega) only [wk, avalE, aactE, evPE, boundE, asNat, bv_seql cellsEq_ii, bv_sneqd cellsEq_ii, readC, allOne, fillL, resE, tupled, ↓reduceIte, Nat.reduceEqDiff, Int.reduceEq, Int.reduceLT, Int.reduceLE, Nat.reduceAdd, Nat.reduceMul, Nat.reduceLT, Nat.reduceLeDiff, reduceCtorEq, p, purify, unownT, AV.hf]
/-- Is one of them wrong? -/
def wrongM (l : List Ext) : Bool := l.any fun x => !decide (rightM x)
def idxW : List Ext → Int → Int
  | [], _ => -1
  | x :: r, k => if rightM x then idxW r (k + 1) else k
theorem idxW_spec : ∀ (l : List Ext) (k : Int), 0 ≤ k → (0 ≤ idxW l k ↔ wrongM l = true)
  | [], k, _ => by simp [idxW, wrongM]
  | x :: r, k, h => by
    have ih := idxW_spec r (k + 1) (by omega)
    unfold wrongM at ih
    by_cases hx : rightM x
    · simp [idxW, wrongM, hx, ih]
    · simp [idxW, wrongM, hx, h]
theorem idxf_px (l : List Ext) (rest : List AV) (s : Nat) (tk : Tk) (H : Heap) (hn : l.length ≤ 1000) (hz : l ≠ [] → s = 3) (hr : hfL rest = true) :
    pcx (cbL tab) 162 [.sl s l.length (encs extA l ++ rest) tk, .fn 151 []] H = some (.plain (.int .i64 (idxW l 0))) := by
  obtain ⟨u1, e1, f1⟩ := lend_sl s l.length (encs extA l ++ rest) tk
  refine pcx_N rfl (pc_wp (fi := c162) rfl ?_ (by simp [c162]) (by decide) ?_)
  · simp only [pcOn, List.map_cons, List.map_nil, hfL, hf_lend_sl, hf_lend_int, hf_lend_bool, hf_lend_str, hfL_append, Bool.and_self, Bool.and_true, Bool.true_and, c162, hf_extA, hr, show (lend (.fn 151 [])).hf = true from rfl]
  unfold c162
  have e2 : lend (.fn 151 []) = .fn 151 [] := rfl
  rw [List.map_cons, List.map_cons, List.map_nil, e1, e2]
  simp (disch := omega) only [wk, avalE, aactE, evPE, boundE, asNat, bv_seql cellsEq_ii, bv_sneqd cellsEq_ii, readC, allOne, fillL, resE, tupled, ↓reduceIte, Nat.reduceEqDiff, Int.reduceEq, Int.reduceLT, Int.reduceLE, Nat.reduceAdd, Nat.reduceMul, Nat.reduceLT, Nat.reduceLeDiff, reduceCtorEq]
  refine loop_ind (fun (x : List Ext × List Ext) E df H => l = x.1 ++ x.2 ∧ idxW l 0 = idxW x.2 (x.1.length : Nat) ∧ E 0 = .sl s l.length (encs extA l ++ rest) u1 ∧ E 1 = .fn 151 [] ∧ E 7 = .int .i64 (l.length : Nat) ∧ E 8 = .int .i64 (x.1.length : Nat) ∧ df = [] ∧ H = [])
    (fun x => x.2.length) ([], l) (by decide) (.inl rfl) ⟨rfl, rfl, rfl, rfl, rfl, rfl, rfl, rfl⟩ ?_
  intro ⟨pre, suf⟩ E df H ih hP
  obtain ⟨a1, a2, E0, E1, E7, E8, hdf, hH⟩ := hP
  dsimp only at a1 a2 E8
  subst hdf hH
  have hl : l.length = pre.length + suf.length := by rw [a1, List.length_append]
  cases suf with
  | nil =>
    simp only [List.length_nil, Nat.add_zero] at hl
    have e : idxW l 0 = -(0 + 1) := a2
    simp (disch := omega) only [wk, avalE, aactE, evPE, boundE, asNat, bv_seql cellsEq_ii, bv_sneqd cellsEq_ii, readC, allOne, fillL, resE, tupled, ↓reduceIte, Nat.reduceEqDiff, Int.reduceEq, Int.reduceLT, Int.reduceLE, Nat.reduceAdd, Nat.reduceMul, Nat.reduceLT, Nat.reduceLeDiff, reduceCtorEq, E0, E1, E7, E8, hl, purify, unownT, AV.hf, e]
  | cons x r =>
    simp only [List.length_cons] at hl
    obtain rfl := hz (by rw [a1]; simp)
    have d := edrop pre x r rest
    rw [← a1] at d
    have n1 : (pre.length : Int) < (l.length : Int) := by omega
    have p := fun H => of1_px x H
    simp only [extV, cellsX] at p
    have st : idxW (x :: r) (pre.length : Nat) = if rightM x then idxW r ((pre.length : Nat) + 1) else (pre.length : Nat) := rfl
    by_cases hx : rightM x
    · simp (disch := omega) only [wk, avalE, aactE, evPE, boundE, asNat, bv_seql cellsEq_ii, bv_sneqd cellsEq_ii, readC, allOne, fillL, resE, tupled, ↓reduceIte, Nat.reduceEqDiff, Int.reduceEq, Int.reduceLT, Int.reduceLE, Nat.reduceAdd, Nat.reduceMul, Nat.reduceLT, Nat.reduceLeDiff, reduceCtorEq, E0, E1, E7, E8, n1, d, p, hx]
      refine ih (pre ++ [x], r) _ _ _ (by simp) ?_
      exact ⟨by simp [a1], by rw [a2, st, if_pos hx]; simp, by simp only [en, ↓reduceIte, Nat.reduceEqDiff, E0], by simp only [en, ↓reduceIte, Nat.reduceEqDiff, E1], by simp only [en, ↓reduceIte, Nat.reduceEqDiff, E7], by simp only [en, ↓reduceIte, Nat.reduceEqDiff], rfl, rfl⟩
    · have e : idxW l 0 = (pre.length : Nat) := by rw [a2, st, if_neg hx]
      simp (disch := omega) only [wk, avalE, aactE, evPE, boundE, asNat, bv_seql cellsEq_ii, bv_sneqd cellsEq_ii, readC, allOne, fillL, resE, tupled, ↓reduceIte, Nat.reduceEqDiff, Int.reduceEq, Int.reduceLT, Int.reduceLE, Nat.reduceAdd, Nat.reduceMul, Nat.reduceLT, Nat.reduceLeDiff, reduceCtorEq, E0, E1, E7, E8, n1, d, p, hx, purify, unownT, AV.hf, e]
theorem contf_px (l : List Ext) (rest : List AV) (s : Nat) (tk : Tk) (H : Heap) (hn : l.length ≤ 1000) (hz : l ≠ [] → s = 3) (hr : hfL rest = true) :
    pcx (cbL tab) 150 [.sl s l.length (encs extA l ++ rest) tk, .fn 151 []] H = some (.plain (.bool (wrongM l))) := by
  obtain ⟨u1, e1, f1⟩ := lend_sl s l.length (encs extA l ++ rest) tk
  refine pcx_N rfl (pc_wp (fi := c150) rfl ?_ (by simp [c150]) (by decide) ?_)
  · simp only [pcOn, List.map_cons, List.map_nil, hfL, hf_lend_sl, hf_lend_int, hf_lend_bool, hf_lend_str, hfL_append, Bool.and_self, Bool.and_true, Bool.true_and, c150, hf_extA, hr, show (lend (.fn 151 [])).hf = true from rfl]
  unfold c150
  have e2 : lend (.fn 151 []) = .fn 151 [] := rfl
  rw [List.map_cons, List.map_cons, List.map_nil, e1, e2]
  have p := fun H => idxf_px l rest s u1 H hn hz hr
  have q := idxW_spec l 0 (by decide)
  by_cases h : 0 ≤ idxW l 0
  · have := q.1 h
    simp (disch := omega) only [wk, avalE, aactE, evPE, boundE, asNat, bv_seql cellsEq_ii, bv_sneqd cellsEq_ii, readC, allOne, fillL, resE, tupled, ↓reduceIte, Nat.reduceEqDiff, Int.reduceEq, Int.reduceLT, Int.reduceLE, Nat.reduceAdd, Nat.reduceMul, Nat.reduceLT, Nat.reduceLeDiff, reduceCtorEq, p, h, this, purify, unownT, AV.hf]
  · have : wrongM l = false := by
      cases hw : wrongM l with
      | false => rfl
      | true => exact absurd (q.2 hw) h
    simp (disch := omega) only [wk, avalE, aactE, evPE, boundE, asNat, bv_seql cellsEq_ii, bv_sneqd cellsEq_ii, readC, allOne, fillL, resE, tupled, ↓reduceIte, Nat.reduceEqDiff, Int.reduceEq, Int.reduceLT, Int.reduceLE, Nat.reduceAdd, Nat.reduceMul, Nat.reduceLT, Nat.reduceLeDiff, reduceCtorEq, p, h, this, purify, unownT, AV.hf]
def SmallE (x : Ext) : Prop := 0 ≤ x.1 ∧ x.1 + x.2.2 ≤ 128 ∧ 0 ≤ x.2.1 ∧ x.2.1 < 2048 ∧ 0 ≤ x.2.2
theorem addE_nil (i d : Int) : addE [] i d = [(i, d, 1)] := rfl
theorem addE_snoc (init : List Ext) (x : Ext) (i d : Int) : addE (init ++ [x]) i d = if x.1 + x.2.2 = i ∧ x.2.1 + x.2.2 = d then init ++ [(x.1, x.2.1, x.2.2 + 1)] else init ++ [x] ++ [(i, d, 1)] := by
  unfold addE
  rw [List.getLast?_concat]
  simp only [List.dropLast_concat]
theorem addE_small {l : List Ext} {i d : Int} (h : ∀ x ∈ l, SmallE x) (i0 : 0 ≤ i) (i1 : i < 128) (d0 : 0 ≤ d) (d1 : d < 2048) : ∀ x ∈ addE l i d, SmallE x := by
  have hnew : SmallE (i, d, 1) := ⟨i0, by show i + 1 ≤ 128; omega, d0, d1, by show (0 : Int) ≤ 1; decide⟩
  rcases List.eq_nil_or_concat l with rfl | ⟨init, y, rfl⟩
  · intro x hx
    rw [addE_nil] at hx
    rw [List.mem_singleton.1 hx]
    exact hnew
  · intro x hx
    rw [List.concat_eq_append] at h hx
    rw [addE_snoc] at hx
    have hy := h y (by simp)
    split at hx
    · rename_i hc
      rcases List.mem_append.1 hx with hx | hx
      · exact h x (by simp [hx])
      · rw [List.mem_singleton.1 hx]
        obtain ⟨h1, h2, h3, h4, h5⟩ := hy
        exact ⟨h1, by show y.1 + (y.2.2 + 1) ≤ 128; omega, h3, h4, by show 0 ≤ y.2.2 + 1; omega⟩
    · rcases List.mem_append.1 hx with hx | hx
      · exact h x hx
      · rw [List.mem_singleton.1 hx]
        exact hnew
theorem addE_len (l : List Ext) (i d : Int) : (addE l i d).length ≤ l.length + 1 := by
  rcases List.eq_nil_or_concat l with rfl | ⟨init, y, rfl⟩
  · exact Nat.le_refl _
  · rw [List.concat_eq_append, addE_snoc]
    split <;> simp
theorem getE0 (init : List Ext) (x : Ext) : (encs extA (init ++ [x]))[init.length * 3]? = some (.int .i64 x.1) := by
  rw [encs_append, List.getElem?_append_right (by rw [lenE]; exact Nat.le_refl _), lenE, Nat.sub_self]; rfl
theorem getE1 (init : List Ext) (x : Ext) : (encs extA (init ++ [x]))[init.length * 3 + 1]? = some (.int .i64 x.2.1) := by
  rw [encs_append, List.getElem?_append_right (by rw [lenE]; omega), lenE, Nat.add_sub_cancel_left]; rfl
theorem getE2 (init : List Ext) (x : Ext) : (encs extA (init ++ [x]))[init.length * 3 + 2]? = some (.int .i64 x.2.2) := by
  rw [encs_append, List.getElem?_append_right (by rw [lenE]; omega), lenE, Nat.add_sub_cancel_left]; rfl
theorem setE2 (init : List Ext) (x : Ext) (m : Int) : List.take (init.length * 3 + 2) (encs extA (init ++ [x])) ++ [AV.int .i64 m] ++ List.drop (init.length * 3 + 2 + 1) (encs extA (init ++ [x])) = encs extA (init ++ [(x.1, x.2.1, m)]) := by
  rw [encs_append, encs_append, List.take_append, List.drop_append, lenE, List.take_of_length_le (by rw [lenE]; omega), List.drop_of_length_le (by rw [lenE]; omega)]
  have h1 : init.length * 3 + 2 - init.length * 3 = 2 := by omega
  have h2 : init.length * 3 + 2 + 1 - init.length * 3 = 3 := by omega
  rw [h1, h2, List.append_assoc, List.append_assoc]
  rfl
theorem goes_ic (id a b : Nat) (init : List Ext) (x : Ext) (i d : Int) (H : Heap) (hid : H[id]? = some (.cells (encs extA (init ++ [x])))) (ha : H[a]? = some (.cells [.int .i64 i])) (hb : H[b]? = some (.cells [.int .i64 d])) (hx : SmallE x) :
    pcx (cbL tab) 166 [.ptr id (init.length * 3), .ptr a 0, .ptr b 0] H = none ∧
    (cbL tab).ic 166 [.ptr id (init.length * 3), .ptr a 0, .ptr b 0] H = some (.ret (.bool (decide (x.1 + x.2.2 = i ∧ x.2.1 + x.2.2 = d))),
      if x.1 + x.2.2 = i ∧ x.2.1 + x.2.2 = d then H.set id (.cells (encs extA (init ++ [(x.1, x.2.1, x.2.2 + 1)]))) else H) := by
  refine ⟨pcx_none rfl (pc_none (fi := c166) rfl rfl), ?_⟩
  have : ∃ o H', (cbL tab).ic 166 [.ptr id (init.length * 3), .ptr a 0, .ptr b 0] H = some (o, H') ∧ o = .ret (.bool (decide (x.1 + x.2.2 = i ∧ x.2.1 + x.2.2 = d))) ∧
      H' = if x.1 + x.2.2 = i ∧ x.2.1 + x.2.2 = d then H.set id (.cells (encs extA (init ++ [(x.1, x.2.1, x.2.2 + 1)]))) else H := by
    refine ic_wp (fi := c166) rfl rfl (by simp [c166]) (by decide) ?_
    unfold c166
    obtain ⟨x1, x2, x3, x4, x5⟩ := hx
    have g0 := getE0 init x
    have g1 := getE1 init x
    have g2 := getE2 init x
    have gs := setE2 init x
    have gl := lenE (init ++ [x])
    by_cases c1 : x.1 + x.2.2 = i
    case neg =>
      have e : ¬ (x.1 + x.2.2 = i ∧ x.2.1 + x.2.2 = d) := fun h => c1 h.1
      simp (disch := omega) only [wk, avalE, aactE, evPE, boundE, asNat, bv_seql cellsEq_ii, bv_sneqd cellsEq_ii, readC, allOne, fillL, resE, tupled, ↓reduceIte, Nat.reduceEqDiff, Int.reduceEq, Int.reduceLT, Int.reduceLE, Nat.reduceAdd, Nat.reduceMul, Nat.reduceLT, Nat.reduceLeDiff, reduceCtorEq, hid, ha, hb, g0, g1, g2, c1, e, false_and]
    by_cases c2 : x.2.1 + x.2.2 = d
    case neg =>
      have e : ¬ (x.1 + x.2.2 = i ∧ x.2.1 + x.2.2 = d) := fun h => c2 h.2
      simp (disch := omega) only [wk, avalE, aactE, evPE, boundE, asNat, bv_seql cellsEq_ii, bv_sneqd cellsEq_ii, readC, allOne, fillL, resE, tupled, ↓reduceIte, Nat.reduceEqDiff, Int.reduceEq, Int.reduceLT, Int.reduceLE, Nat.reduceAdd, Nat.reduceMul, Nat.reduceLT, Nat.reduceLeDiff, reduceCtorEq, hid, ha, hb, g0, g1, g2, c1, c2, e, and_false]
    simp (disch := omega) only [wk, avalE, aactE, evPE, boundE, asNat, bv_seql cellsEq_ii, bv_sneqd cellsEq_ii, readC, allOne, fillL, resE, tupled, ↓reduceIte, Nat.reduceEqDiff, Int.reduceEq, Int.reduceLT, Int.reduceLE, Nat.reduceAdd, Nat.reduceMul, Nat.reduceLT, Nat.reduceLeDiff, reduceCtorEq, hid, ha, hb, g0, g1, g2, gs, gl, c1, c2]
  obtain ⟨o, H', h, rfl, rfl⟩ := this
  exact h
/-- A row of extents in memory. -/
def RowE (H : Heap) (v : AV) (l : List Ext) : Prop := (l = [] ∧ v = .sl 0 0 [] .z) ∨ (l ≠ [] ∧ ∃ id, v = .rsl 3 id l.length ∧ H[id]? = some (.cells (encs extA l)))
def From (b0 : Nat) (v : AV) : Prop := ∀ k n, v = .rsl 3 k n → b0 ≤ k
theorem lgoes : (cbL tab).lent 166 = false := rfl
theorem joined_ic (v : AV) (l : List Ext) (i d : Int) (a b b0 : Nat) (H : Heap) (hr : RowE H v l) (hb0 : b0 ≤ H.length) (hv : From b0 v) (ha : H[a]? = some (.cells [.int .i64 i])) (hb : H[b]? = some (.cells [.int .i64 d]))
    (hs : ∀ x ∈ l, SmallE x) (hl : l.length ≤ 1000) :
    pcx (cbL tab) 165 [v, extV (i, d, 1), .fn 166 [.ptr a 0, .ptr b 0]] H = none ∧
    ∃ v' H', (cbL tab).ic 165 [v, extV (i, d, 1), .fn 166 [.ptr a 0, .ptr b 0]] H = some (.ret v', H') ∧
      RowE H' v' (addE l i d) ∧ From b0 v' ∧ b0 ≤ H'.length ∧ ∀ k, k < b0 → H'[k]? = H[k]? := by
  have post : ∀ o H', ((∃ v', o = Out.ret v' ∧ RowE H' v' (addE l i d) ∧ From b0 v' ∧ b0 ≤ H'.length ∧ ∀ k, k < b0 → H'[k]? = H[k]?)) → (cbL tab).ic 165 [v, extV (i, d, 1), .fn 166 [.ptr a 0, .ptr b 0]] H = some (o, H') →
      ∃ v' H', (cbL tab).ic 165 [v, extV (i, d, 1), .fn 166 [.ptr a 0, .ptr b 0]] H = some (.ret v', H') ∧ RowE H' v' (addE l i d) ∧ From b0 v' ∧ b0 ≤ H'.length ∧ ∀ k, k < b0 → H'[k]? = H[k]? := by
    rintro o H' ⟨v', rfl, h⟩ h2
    exact ⟨v', H', h2, h⟩
  have old : ∀ k, k < b0 → ∀ r : Heap, (H ++ r)[k]? = H[k]? := fun k hk r => List.getElem?_append_left (by omega)
  rcases hr with ⟨rfl, rfl⟩ | ⟨hne, id, rfl, hid⟩
  · refine ⟨pcx_none rfl (pc_none (fi := c165) rfl rfl), ?_⟩
    have : ∃ o H', (cbL tab).ic 165 [.sl 0 0 [] .z, extV (i, d, 1), .fn 166 [.ptr a 0, .ptr b 0]] H = some (o, H') ∧
        (∃ v', o = Out.ret v' ∧ RowE H' v' (addE [] i d) ∧ From b0 v' ∧ b0 ≤ H'.length ∧ ∀ k, k < b0 → H'[k]? = H[k]?) := by
      refine ic_wp (fi := c165) rfl rfl (by simp [c165]) (by decide) ?_
      unfold c165 extV cellsX
      have ap : ∀ H1 : Heap, appR 3 24 (.sl 0 0 [] .z) (.sl 3 1 [.int .i64 i, .int .i64 d, .int .i64 1] .ro) H1 = some (.val (.rsl 3 H1.length 1), H1 ++ [.cells [.int .i64 i, .int .i64 d, .int .i64 1]]) := by
        intro H1
        simp [appR, allOne, AV.one]
      have i0 : ((0 : Nat) : Int) = 0 := rfl
      have gz : (H ++ [AObj.cells [.int .i64 i, .int .i64 d, .int .i64 1]])[H.length]? = some (.cells [.int .i64 i, .int .i64 d, .int .i64 1]) := by simp
      simp (disch := omega) only [wk, avalE, aactE, evPE, boundE, asNat, bv_seql cellsEq_ii, bv_sneqd cellsEq_ii, readC, allOne, fillL, resE, tupled, ↓reduceIte, Nat.reduceEqDiff, Int.reduceEq, Int.reduceLT, Int.reduceLE, Nat.reduceAdd, Nat.reduceMul, Nat.reduceLT, Nat.reduceLeDiff, reduceCtorEq, ap, i0, gz]
      refine ⟨_, rfl, .inr ⟨by simp [addE_nil], _, rfl, ?_⟩, fun k n e => ?_, ?_, fun k hk => ?_⟩
      · rw [addE_nil]; simp [encs, extA]
      · cases e; omega
      · omega
      · rw [List.append_assoc]; exact old k hk _
    obtain ⟨o, H', h1, h2⟩ := this
    exact post o H' h2 h1
  · refine ⟨pcx_none rfl (pc_none (fi := c165) rfl rfl), ?_⟩
    have hid0 : b0 ≤ id := hv id _ rfl
    obtain ⟨init, x, rfl⟩ : ∃ init x, l = init ++ [x] := by
      rcases List.eq_nil_or_concat l with h | ⟨init, y, h⟩
      · exact absurd h hne
      · exact ⟨init, y, by rw [h, List.concat_eq_append]⟩
    have len : (init ++ [x]).length = init.length + 1 := by simp
    rw [len] at hl ⊢
    rw [len] at post hv
    have hlt : id < H.length := (List.getElem?_eq_some_iff.1 hid).1
    have : ∃ o H', (cbL tab).ic 165 [.rsl 3 id (init.length + 1), extV (i, d, 1), .fn 166 [.ptr a 0, .ptr b 0]] H = some (o, H') ∧
        (∃ v', o = Out.ret v' ∧ RowE H' v' (addE (init ++ [x]) i d) ∧ From b0 v' ∧ b0 ≤ H'.length ∧ ∀ k, k < b0 → H'[k]? = H[k]?) := by
      refine ic_wp (fi := c165) rfl rfl (by simp [c165]) (by decide) ?_
      unfold c165 extV cellsX
      have up : ∀ (k : Nat) (o : AObj), H[k]? = some o → (H ++ [AObj.cells [.int .i64 i, .int .i64 d, .int .i64 1]])[k]? = some o := fun k o h => by
        rw [List.getElem?_append_left (List.getElem?_eq_some_iff.1 h).1]; exact h
      obtain ⟨q1, q2⟩ := goes_ic id a b init x i d (H ++ [AObj.cells [.int .i64 i, .int .i64 d, .int .i64 1]]) (up _ _ hid) (up _ _ ha) (up _ _ hb) (hs x (by simp))
      have n0 : (0 : Int) < (init.length : Int) + 1 := by omega
      have n1 : (init.length : Int) + 1 - 1 = (init.length : Int) := by omega
      have n2 : (init.length : Int) < ((init.length + 1 : Nat) : Int) := by omega
      have n3 : (init.length : Int) < (init.length : Int) + 1 := by omega
      by_cases c : x.1 + x.2.2 = i ∧ x.2.1 + x.2.2 = d
      · rw [if_pos c] at q2
        have hd : decide (x.1 + x.2.2 = i ∧ x.2.1 + x.2.2 = d) = true := decide_eq_true c
        have ha2 : addE (init ++ [x]) i d = init ++ [(x.1, x.2.1, x.2.2 + 1)] := by rw [addE_snoc, if_pos c]
        rw [hd] at q2
        clear c hd
        simp (disch := omega) only [wk, avalE, aactE, evPE, boundE, asNat, bv_seql cellsEq_ii, bv_sneqd cellsEq_ii, readC, allOne, fillL, resE, tupled, ↓reduceIte, Nat.reduceEqDiff, Int.reduceEq, Int.reduceLT, Int.reduceLE, Nat.reduceAdd, Nat.reduceMul, Nat.reduceLT, Nat.reduceLeDiff, reduceCtorEq, n0, n1, n2, n3, q1, q2, runE_none lgoes]
        rw [ha2]
        refine ⟨_, rfl, .inr ⟨by simp, id, by simp, ?_⟩, fun k n e => ?_, ?_, fun k hk => ?_⟩
        · exact List.getElem?_set_self (by simp; omega)
        · cases e; exact hid0
        · simp; omega
        · rw [List.getElem?_set_ne (by omega)]; exact old k hk _
      · rw [if_neg c] at q2
        have hd : decide (x.1 + x.2.2 = i ∧ x.2.1 + x.2.2 = d) = false := decide_eq_false c
        have ha2 : addE (init ++ [x]) i d = init ++ [x] ++ [(i, d, 1)] := by rw [addE_snoc, if_neg c]
        rw [hd] at q2
        clear c hd
        have gz : (H ++ [AObj.cells [.int .i64 i, .int .i64 d, .int .i64 1]])[H.length]? = some (.cells [.int .i64 i, .int .i64 d, .int .i64 1]) := by simp
        have hid1 := up _ _ hid
        have lE : (encs extA (init ++ [x])).length = (init.length + 1) * 3 := by rw [lenE, len]
        have ap : appR 3 24 (.rsl 3 id (init.length + 1)) (.sl 3 1 [.int .i64 i, .int .i64 d, .int .i64 1] .ro) (H ++ [AObj.cells [.int .i64 i, .int .i64 d, .int .i64 1]]) =
            some (.val (.rsl 3 (H.length + 1) (init.length + 1 + 1)), (H ++ [AObj.cells [.int .i64 i, .int .i64 d, .int .i64 1]]).set id .dead ++ [.cells (encs extA (init ++ [x]) ++ [.int .i64 i, .int .i64 d, .int .i64 1])]) := by
          have h1 : (init.length + 1 + 1) * 24 ≤ 70368744177664 := by omega
          have h2 : init.length + 1 + 1 ≤ 70368744177664 := by omega
          simp [appR, allOne, AV.one, hid1, lE, one_extA, h1, h2]
        simp (disch := omega) only [wk, avalE, aactE, evPE, boundE, asNat, bv_seql cellsEq_ii, bv_sneqd cellsEq_ii, readC, allOne, fillL, resE, tupled, ↓reduceIte, Nat.reduceEqDiff, Int.reduceEq, Int.reduceLT, Int.reduceLE, Nat.reduceAdd, Nat.reduceMul, Nat.reduceLT, Nat.reduceLeDiff, reduceCtorEq, n0, n1, n2, n3, q1, q2, runE_none lgoes, gz, ap]
        rw [ha2]
        refine ⟨_, rfl, .inr ⟨by simp, H.length + 1, by simp, ?_⟩, fun k n e => ?_, ?_, fun k hk => ?_⟩
        · rw [encs_append (l := init ++ [x]), List.getElem?_append_right (by simp)]
          simp [encs, extA]
        · cases e; omega
        · simp; omega
        · rw [List.getElem?_append_left (by simp; omega), List.getElem?_set_ne (by omega)]; exact old k hk _
    obtain ⟨o, H', h1, h2⟩ := this
    exact post o H' h2 h1
theorem fv1 {id id' o o' : Nat} {r : List AV} (h : id' ≠ id) : floatV (.ptr id o :: r) [.ptr id' o'] = floatV r [.ptr id' o'] := by
  have : offP id [.ptr id' o'] = true := by simp [offP, h]
  simp [floatV, this]
theorem fve {cs : List AV} {r ss : List AV} : floatV (.eptr cs :: r) ss = floatV r ss := by cases ss <;> rfl
theorem get_a0 (H : Heap) (A B : AObj) : (H ++ [A, B])[H.length]? = some A := by simp
theorem get_a1 (H : Heap) (A B : AObj) : (H ++ [A, B])[H.length + 1]? = some B := by simp
theorem set_a0 (H : Heap) (A B C : AObj) : (H ++ [A, B]).set H.length C = H ++ [C, B] := by simp
theorem set_a1 (H : Heap) (A B C : AObj) : (H ++ [A, B]).set (H.length + 1) C = H ++ [A, C] := by
  rw [List.set_append_right _ _ (by omega), Nat.add_sub_cancel_left]; rfl
theorem ljoin : (cbL tab).lent 165 = false := rfl
theorem lenT (l : List Int) : (encs i64A l).length = l.length := by rw [encs_length (k := 1), Nat.mul_one]
theorem getT (pre : List Int) (d : Int) (r : List Int) : (encs i64A (pre ++ d :: r))[pre.length]? = some (.int .i64 d) := by
  rw [encs_append, List.getElem?_append_right (by rw [lenT]; exact Nat.le_refl _), lenT, Nat.sub_self]; rfl
theorem list_ic (id : Nat) (t : List Int) (H : Heap) (hid : H[id]? = some (.cells (encs i64A t))) (ht : Tab t) :
    pcx (cbL tab) 153 [.ptr id 0] H = none ∧
    ∃ v' H', (cbL tab).ic 153 [.ptr id 0] H = some (.ret v', H') ∧ RowE H' v' (listM t) ∧ From H.length v' ∧ H.length ≤ H'.length ∧ (∀ k, k < H.length → H'[k]? = H[k]?) ∧ (∀ x ∈ listM t, SmallE x) ∧ (listM t).length ≤ 128 := by
  refine ⟨pcx_none rfl (pc_none (fi := c153) rfl rfl), ?_⟩
  have : ∃ o H', (cbL tab).ic 153 [.ptr id 0] H = some (o, H') ∧ (∃ v', o = .ret v' ∧ RowE H' v' (listM t) ∧ From H.length v' ∧ H.length ≤ H'.length ∧ (∀ k, k < H.length → H'[k]? = H[k]?) ∧ (∀ x ∈ listM t, SmallE x) ∧ (listM t).length ≤ 128) := by
    refine ic_wp (fi := c153) rfl rfl (by simp [c153]) (by decide) ?_
    unfold c153
    have hlt : id < H.length := (List.getElem?_eq_some_iff.1 hid).1
    have ht128 := ht.len
    simp (disch := omega) only [wk, avalE, aactE, evPE, boundE, asNat, bv_seql cellsEq_ii, bv_sneqd cellsEq_ii, readC, allOne, fillL, resE, tupled, ↓reduceIte, Nat.reduceEqDiff, Int.reduceEq, Int.reduceLT, Int.reduceLE, Nat.reduceAdd, Nat.reduceMul, Nat.reduceLT, Nat.reduceLeDiff, reduceCtorEq]
    refine loop_ind (fun (x : List Int × List Int × List Ext) E df H1 => t = x.1 ++ x.2.1 ∧ listM t = listF x.2.1 (x.1.length : Nat) x.2.2 ∧ E 5 = .ptr id 0 ∧ E 6 = .int .i64 (x.1.length : Nat) ∧ RowE H1 (E 2) x.2.2 ∧ From H.length (E 2) ∧ H.length ≤ H1.length ∧ (∀ k, k < H.length → H1[k]? = H[k]?) ∧ (∀ y ∈ x.2.2, SmallE y) ∧ x.2.2.length ≤ x.1.length ∧ df = [])
      (fun x => x.2.1.length) ([], t, []) (by decide) (.inl rfl) ⟨rfl, rfl, rfl, rfl, .inl ⟨rfl, rfl⟩, (by intro k n e; cases e), Nat.le_refl _, fun _ _ => rfl, by simp, Nat.le_refl _, rfl⟩ ?_
    intro ⟨pre, suf, out⟩ E df H1 ih hP
    obtain ⟨a1, a2, E5, E6, ho, hf, hle, hold, hsm, hol, hdf⟩ := hP
    dsimp only at a1 a2 E6 ho hsm hol
    subst hdf
    have hl : t.length = pre.length + suf.length := by rw [a1, List.length_append]
    cases suf with
    | nil =>
      simp only [List.length_nil, Nat.add_zero] at hl
      have n1 : ¬ (pre.length : Int) < 128 := by omega
      have e : listM t = out := a2
      have hpl : pre.length ≤ 128 := by omega
      clear hl
      simp (disch := omega) only [wk, avalE, aactE, evPE, boundE, asNat, bv_seql cellsEq_ii, bv_sneqd cellsEq_ii, readC, allOne, fillL, resE, tupled, ↓reduceIte, Nat.reduceEqDiff, Int.reduceEq, Int.reduceLT, Int.reduceLE, Nat.reduceAdd, Nat.reduceMul, Nat.reduceLT, Nat.reduceLeDiff, reduceCtorEq, E5, E6, n1]
      rw [e]
      exact ⟨_, rfl, ho, hf, hle, hold, hsm, by omega⟩
    | cons d r =>
      simp only [List.length_cons] at hl
      have n1 : (pre.length : Int) < 128 := by omega
      have hid1 : H1[id]? = some (.cells (encs i64A t)) := by rw [hold id hlt]; exact hid
      have g := getT pre d r
      rw [← a1] at g
      have hdv := ht.val d (by rw [a1]; simp)
      have ef : listF (d :: r) (pre.length : Nat) out = listF r ((pre.length : Nat) + 1) (if d = 0 then out else addE out (pre.length : Nat) d) := rfl
      by_cases hd : d = 0
      · have n2 : ¬ 0 < d := by omega
        simp (disch := omega) only [wk, avalE, aactE, evPE, boundE, asNat, bv_seql cellsEq_ii, bv_sneqd cellsEq_ii, readC, allOne, fillL, resE, tupled, ↓reduceIte, Nat.reduceEqDiff, Int.reduceEq, Int.reduceLT, Int.reduceLE, Nat.reduceAdd, Nat.reduceMul, Nat.reduceLT, Nat.reduceLeDiff, reduceCtorEq, E5, E6, n1, hid1, g, fv1, get_a0, get_a1, set_a0, set_a1, Nat.zero_add, n2]
        refine ih (pre ++ [d], r, out) _ _ _ (by simp) ?_
        have ho2 : RowE (H1 ++ [AObj.cells [AV.int .i64 (pre.length : Nat)], .cells [.int .i64 d]]) (E 2) out := by
          rcases ho with h | ⟨h1, k, h2, h3⟩
          · exact .inl h
          · exact .inr ⟨h1, k, h2, by rw [List.getElem?_append_left (List.getElem?_eq_some_iff.1 h3).1]; exact h3⟩
        refine ⟨by simp [a1], by rw [a2, ef, if_pos hd]; simp, by simp only [en, ↓reduceIte, Nat.reduceEqDiff, E5], by simp only [en, ↓reduceIte, Nat.reduceEqDiff], by simp only [en, ↓reduceIte, Nat.reduceEqDiff]; exact ho2, by simp only [en, ↓reduceIte, Nat.reduceEqDiff]; exact hf, by rw [List.length_append]; omega, fun k hk => ?_, hsm, by dsimp only; rw [List.length_append]; omega, rfl⟩
        rw [List.getElem?_append_left (by omega)]
        exact hold k hk
      · have n2 : 0 < d := by omega
        have ho2 : RowE (H1 ++ [AObj.cells [AV.int .i64 (pre.length : Nat)], .cells [.int .i64 d]]) (E 2) out := by
          rcases ho with h | ⟨h1, k, h2, h3⟩
          · exact .inl h
          · exact .inr ⟨h1, k, h2, by rw [List.getElem?_append_left (List.getElem?_eq_some_iff.1 h3).1]; exact h3⟩
        obtain ⟨q1, v', H2, q2, q3, q4, q5, q6⟩ := joined_ic (E 2) out (pre.length : Nat) d H1.length (H1.length + 1) H.length _ ho2 (by rw [List.length_append]; omega) hf (get_a0 ..) (get_a1 ..) hsm (by omega)
        simp only [extV, cellsX] at q1 q2
        have hal := addE_len out (pre.length : Nat) d
        have hsm2 := addE_small hsm (i := (pre.length : Nat)) (d := d) (by omega) (by omega) (by omega) (by omega)
        simp (disch := omega) only [wk, avalE, aactE, evPE, boundE, asNat, bv_seql cellsEq_ii, bv_sneqd cellsEq_ii, readC, allOne, fillL, resE, tupled, ↓reduceIte, Nat.reduceEqDiff, Int.reduceEq, Int.reduceLT, Int.reduceLE, Nat.reduceAdd, Nat.reduceMul, Nat.reduceLT, Nat.reduceLeDiff, reduceCtorEq, E5, E6, n1, hid1, g, fv1, get_a0, get_a1, set_a0, set_a1, Nat.zero_add, n2, q1, q2, runE_none ljoin]
        refine ih (pre ++ [d], r, addE out (pre.length : Nat) d) _ _ _ (by simp) ?_
        refine ⟨by simp [a1], by rw [a2, ef, if_neg hd]; simp, by simp only [en, ↓reduceIte, Nat.reduceEqDiff, E5], by simp only [en, ↓reduceIte, Nat.reduceEqDiff], by simp only [en, ↓reduceIte, Nat.reduceEqDiff]; exact q3, by simp only [en, ↓reduceIte, Nat.reduceEqDiff]; exact q4, q5, fun k hk => ?_, hsm2, by dsimp only; rw [List.length_append]; exact Nat.le_trans hal (by simp; omega), rfl⟩
        rw [q6 k hk, List.getElem?_append_left (by omega)]
        exact hold k hk
  obtain ⟨o, H', h1, v', rfl, h2⟩ := this
  exact ⟨v', H', h1, h2⟩
end Go.Proofs.Ytncmflmjlocgiaa
