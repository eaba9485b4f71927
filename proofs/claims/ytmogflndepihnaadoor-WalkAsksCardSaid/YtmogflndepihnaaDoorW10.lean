/- WHAT A COPY TELLS; WHAT IS LEFT; A COPY. No condition but those stated. -/
import Derived.Test.YtmogflndepihnaaDoorW9
import Derived.Test.YtmogflndepihnaaDoorK7
import Derived.Test.YtmogflndepihnaaDoorXB
set_option linter.unusedSimpArgs false
set_option linter.unusedVariables false
set_option linter.unusedSectionVars false
namespace Go.Proofs.YtmogflndepihnaaDoor
open Go Go.Am Go.Nam Go.Wlk Go.Rec
set_option maxHeartbeats 4000000
set_option maxRecDepth 10000
/-- A walker in memory that is only read. -/
def WatC (H : Heap) (a : Nat) (w : Wk) : Prop := ∃ s tk, (w.parts ≠ [] → s = 1) ∧ ((w.parts ≠ [] ∧ (tk = .ro ∨ ∃ g, tk = .own g)) ∨ (tk = .z ∧ w.parts = [])) ∧ H[a]? = some (.cells (w.cells (.sl s w.parts.length (encs strA w.parts) tk)))
def Still (H H' : Heap) : Prop := ∀ (i : Nat) (o : AObj), H[i]? = some o → H'[i]? = some o
theorem Still.refl (H : Heap) : Still H H := fun _ _ h => h
theorem Still.trans {H H' H'' : Heap} (h : Still H H') (k : Still H' H'') : Still H H'' := fun i o e => k i o (h i o e)
theorem Still.app (H L : Heap) : Still H (H ++ L) := fun i o h => by rw [List.getElem?_append_left (List.getElem?_eq_some_iff.1 h).1]; exact h
theorem Wat.c {H : Heap} {a : Nat} {w : Wk} (h : Wat H a w) (hl : w.fin = none → w.parts ≠ []) : WatC H a w := by
  obtain ⟨s, tk, h1, h2, h3⟩ := h
  refine ⟨s, tk, h1, ?_, h3⟩
  rcases h2 with ⟨h2, hf⟩ | h2
  · exact .inl ⟨hl hf, .inl h2⟩
  · exact .inr h2
theorem WatC.still {H H' : Heap} {a : Nat} {w : Wk} (h : WatC H a w) (k : Still H H') : WatC H' a w := by
  obtain ⟨s, tk, h1, h2, h3⟩ := h
  exact ⟨s, tk, h1, h2, k _ _ h3⟩
theorem asksC_ic {H : Heap} {a : Nat} {w : Wk} (hw : WatC H a w) (hf : w.fin = none) {p : List UInt8} {r : List (List UInt8)} (hp : w.parts = p :: r) : (cbL tab).ic 35 [.ptr a 0] H = some (.ret (.tup [.int .i64 w.at_, .str (bs p), .bool true]), H) := by
  obtain ⟨s, tk, h1, h2, h3⟩ := hw
  rw [hp] at h1 h3
  obtain rfl := h1 (by simp)
  simp only [Wk.cells, Wd.cells, List.cons_append, List.nil_append, hf, Option.isSome_none] at h3
  have n0 := none_ic h3
  have e1 : encs strA (p :: r) = .str (bs p) :: encs strA r := rfl
  have key : ∃ o H', (cbL tab).ic 35 [.ptr a 0] H = some (o, H') ∧ o = .ret (.tup [.int .i64 w.at_, .str (bs p), .bool true]) ∧ H' = H := by
    refine ic_wp (fi := c35) rfl rfl (by simp [c35]) (by decide) ?_
    unfold c35
    simp (disch := omega) only [wk, avalE, aactE, evPE, boundE, asNat, bv_seql cellsEq_ii, bv_sneqd cellsEq_ii, readC, allOne, fillL, resE, tupled, ↓reduceIte, Nat.reduceEqDiff, Int.reduceEq, Int.reduceLT, Int.reduceLE, Nat.reduceAdd, Nat.reduceMul, Nat.reduceLT, Nat.reduceLeDiff, reduceCtorEq, h3, n0, e1, in_none, runE_none ll_none, in_Asks, runE_none ll_Asks, in_Give, runE_none ll_Give, in_Miss, runE_none ll_Miss, in_Done, runE_none ll_Done, in_Copy, runE_none ll_Copy, in_on, runE_none ll_on, in_asked, runE_none ll_asked, in_into, runE_none ll_into, in_through, runE_none ll_through, in_ends, runE_none ll_ends, in_New, runE_none ll_New, in_same, runE_none ll_same, Int.toNat_zero]
  obtain ⟨o, H', h, rfl, rfl⟩ := key
  exact h
theorem asksC_over {H : Heap} {a : Nat} {w : Wk} (hw : WatC H a w) (hf : w.fin.isSome = true) : (cbL tab).ic 35 [.ptr a 0] H = some (.ret (.tup [.int .i64 0, .str (bs []), .bool false]), H) := by
  obtain ⟨s, tk, h1, h2, h3⟩ := hw
  simp only [Wk.cells, Wd.cells, List.cons_append, List.nil_append, hf] at h3
  have n0 := none_ic h3
  have key : ∃ o H', (cbL tab).ic 35 [.ptr a 0] H = some (o, H') ∧ o = .ret (.tup [.int .i64 0, .str (bs []), .bool false]) ∧ H' = H := by
    refine ic_wp (fi := c35) rfl rfl (by simp [c35]) (by decide) ?_
    unfold c35
    simp (disch := omega) only [wk, avalE, aactE, evPE, boundE, asNat, bv_seql cellsEq_ii, bv_sneqd cellsEq_ii, readC, allOne, fillL, resE, tupled, ↓reduceIte, Nat.reduceEqDiff, Int.reduceEq, Int.reduceLT, Int.reduceLE, Nat.reduceAdd, Nat.reduceMul, Nat.reduceLT, Nat.reduceLeDiff, reduceCtorEq, h3, n0, in_none, runE_none ll_none, in_Asks, runE_none ll_Asks, in_Give, runE_none ll_Give, in_Miss, runE_none ll_Miss, in_Done, runE_none ll_Done, in_Copy, runE_none ll_Copy, in_on, runE_none ll_on, in_asked, runE_none ll_asked, in_into, runE_none ll_into, in_through, runE_none ll_through, in_ends, runE_none ll_ends, in_New, runE_none ll_New, in_same, runE_none ll_same]
    rfl
  obtain ⟨o, H', h, rfl, rfl⟩ := key
  exact h
theorem doneC_ic {H : Heap} {a : Nat} {w : Wk} (hw : WatC H a w) : ∃ H', (cbL tab).ic 39 [.ptr a 0] H = some (.ret (.tup [.agg w.endA.cells, .bool w.fin.isSome]), H') ∧ Still H H' := by
  obtain ⟨s, tk, h1, h2, h3⟩ := hw
  simp only [Wk.cells, Wd.cells, List.cons_append, List.nil_append] at h3
  have hlt := (List.getElem?_eq_some_iff.1 h3).1
  have g0 : ∀ (L : List AObj), (H ++ L)[H.length]? = L[0]? := fun L => by rw [List.getElem?_append_right (by omega)]; congr 1; omega
  have s0 : ∀ (L : List AObj) (o : AObj), (H ++ L).set H.length o = H ++ L.set 0 o := fun L o => by rw [List.set_append_right _ _ (by omega)]; congr 2; omega
  have a1 : ∀ (L : List AObj), (H ++ L)[a]? = _ := fun L => (List.getElem?_append_left hlt).trans h3
  have n0 := fun L => none_ic (a1 L)
  have key : ∃ o H', (cbL tab).ic 39 [.ptr a 0] H = some (o, H') ∧ o = .ret (.tup [.agg w.endA.cells, .bool w.fin.isSome]) ∧ H' = H ++ [.cells w.endA.cells] := by
    refine ic_wp (fi := c39) rfl rfl (by simp [c39]) (by decide) ?_
    unfold c39 Wd.cells
    have fv : ∀ o o', floatV [.ptr a o] [.ptr H.length o'] = true := fun o o' => by rw [floatV_p (by rw [offP_ptr (by omega)]; rfl)]; exact floatV_nil
    simp (disch := omega) only [wk, avalE, aactE, evPE, boundE, asNat, bv_seql cellsEq_ii, bv_sneqd cellsEq_ii, readC, allOne, fillL, resE, tupled, ↓reduceIte, Nat.reduceEqDiff, Int.reduceEq, Int.reduceLT, Int.reduceLE, Nat.reduceAdd, Nat.reduceMul, Nat.reduceLT, Nat.reduceLeDiff, reduceCtorEq, g0, s0, a1, h3, n0, fv, in_none, runE_none ll_none, in_Asks, runE_none ll_Asks, in_Give, runE_none ll_Give, in_Miss, runE_none ll_Miss, in_Done, runE_none ll_Done, in_Copy, runE_none ll_Copy, in_on, runE_none ll_on, in_asked, runE_none ll_asked, in_into, runE_none ll_into, in_through, runE_none ll_through, in_ends, runE_none ll_ends, in_New, runE_none ll_New, in_same, runE_none ll_same]
  obtain ⟨o, H', h, rfl, rfl⟩ := key
  exact ⟨_, h, Still.app _ _⟩
theorem zz {xo yo : X} {s : Nat} : binV .eql .slice xo yo (.sl s 0 [] .z) (.sl 0 0 [] .z) = some (.bool true) := rfl
theorem rz {xo yo : X} {s n : Nat} {cs : List AV} : binV .eql .slice xo yo (.sl s n cs .ro) (.sl 0 0 [] .z) = some (.bool false) := rfl
theorem clone_px {l : List (List UInt8)} (hl : l.length ≤ 100000) {s : Nat} {tk : Tk} (h1 : l ≠ [] → s = 1) (h2 : (l ≠ [] ∧ (tk = .ro ∨ ∃ g, tk = .own g)) ∨ (tk = .z ∧ l = [])) (H : Heap) :
    pcx (cbL tab) 75 [.sl s l.length (encs strA l) tk] H = some (prRow 1 strA l) := by
  rcases h2 with ⟨hne, ht⟩ | ⟨rfl, rfl⟩
  · obtain rfl := h1 hne
    have el : lend (.sl 1 l.length (encs strA l) tk) = .sl 1 l.length (encs strA l) .ro := by rcases ht with rfl | ⟨g, rfl⟩ <;> rfl
    have n0 : l.length ≠ 0 := fun e => hne (List.eq_nil_of_length_eq_zero e)
    refine pcx_N rfl (pc_wp (fi := c75) rfl ?_ (by simp [c75]) (by decide) ?_)
    · show hfL [lend _] = true
      rw [el]
      simp [hfL, AV.hf, hf_strA, Tk.hf]
    unfold c75
    rw [List.map_cons, List.map_nil, el]
    have own0 : Own ([] : Heap) 1 (.sl 1 0 [] .e) 0 [] := .inl ⟨.inr rfl, rfl, rfl⟩
    simp (disch := omega) only [wk, avalE, aactE, evPE, boundE, asNat, bv_seql cellsEq_ii, bv_sneqd cellsEq_ii, readC, allOne, fillL, resE, tupled, ↓reduceIte, Nat.reduceEqDiff, Int.reduceEq, Int.reduceLT, Int.reduceLE, Nat.reduceAdd, Nat.reduceMul, Nat.reduceLT, Nat.reduceLeDiff, reduceCtorEq, rz]
    refine runX_app own0 (by omega) (by omega) (by omega) n0 (by rw [lenS]; omega) (one_strA _) (fun H2 q1 q2 q3 => ?_)
    simp only [Nat.zero_add, List.nil_append] at q1 ⊢
    simp (disch := omega) only [wk, avalE, aactE, evPE, boundE, asNat, bv_seql cellsEq_ii, bv_sneqd cellsEq_ii, readC, allOne, fillL, resE, tupled, ↓reduceIte, Nat.reduceEqDiff, Int.reduceEq, Int.reduceLT, Int.reduceLE, Nat.reduceAdd, Nat.reduceMul, Nat.reduceLT, Nat.reduceLeDiff, reduceCtorEq]
    exact purify_row (fun _ => rfl) q1 (fun e => absurd e hne)
  · refine pcx_N rfl (pc_wp (fi := c75) rfl rfl (by simp [c75]) (by decide) ?_)
    unfold c75
    rw [List.map_cons, List.map_nil]
    have el : lend (.sl s ([] : List (List UInt8)).length (encs strA []) .z) = .sl s 0 [] .z := rfl
    rw [el]
    simp (disch := omega) only [wk, avalE, aactE, evPE, boundE, asNat, bv_seql cellsEq_ii, bv_sneqd cellsEq_ii, readC, allOne, fillL, resE, tupled, ↓reduceIte, Nat.reduceEqDiff, Int.reduceEq, Int.reduceLT, Int.reduceLE, Nat.reduceAdd, Nat.reduceMul, Nat.reduceLT, Nat.reduceLeDiff, reduceCtorEq, zz, purify, unownT, unown, AV.hf, hfL, Tk.hf]
    rfl
theorem epn {xo yo : X} {cs : List AV} : binV .eql .ptr xo yo (.eptr cs) .nilp = some (.bool false) := rfl
theorem none_ep {H : Heap} {c0 c1 c2 c3 c4 c5 c6 c7 c8 c9 : AV} {b : Bool} : (cbL tab).ic 67 [.eptr [c0, c1, c2, c3, c4, c5, c6, c7, c8, c9, .bool b]] H = some (.ret (.bool !b), H) := by
  have : ∃ o H', (cbL tab).ic 67 [.eptr [c0, c1, c2, c3, c4, c5, c6, c7, c8, c9, .bool b]] H = some (o, H') ∧ o = .ret (.bool !b) ∧ H' = H := by
    refine ic_wp (fi := c67) rfl rfl (by simp [c67]) (by decide) ?_
    unfold c67
    simp (disch := omega) only [wk, avalE, aactE, evPE, boundE, asNat, bv_seql cellsEq_ii, bv_sneqd cellsEq_ii, readC, allOne, fillL, resE, tupled, ↓reduceIte, Nat.reduceEqDiff, Int.reduceEq, Int.reduceLT, Int.reduceLE, Nat.reduceAdd, Nat.reduceMul, Nat.reduceLT, Nat.reduceLeDiff, reduceCtorEq, epn]
  obtain ⟨o, H', h, rfl, rfl⟩ := this
  exact h
theorem scal_strA (l : List (List UInt8)) : (encs strA l).all (·.scal) = true := by
  induction l with
  | nil => rfl
  | cons x r ih => rw [show encs strA (x :: r) = .str (bs x) :: encs strA r from rfl, List.all_cons, ih]; rfl
theorem left_px {H : Heap} {a : Nat} {w : Wk} (hw : WatC H a w) (hl : w.parts.length ≤ 100000) : pcx (cbL tab) 50 [.ptr a 0] H = some (prRow 1 strA w.parts) := by
  obtain ⟨s, tk, h1, h2, h3⟩ := hw
  obtain ⟨u, hu, k2, kf⟩ : ∃ u, unown (.sl s w.parts.length (encs strA w.parts) tk) = .sl s w.parts.length (encs strA w.parts) u ∧ ((w.parts ≠ [] ∧ (u = .ro ∨ ∃ g, u = .own g)) ∨ (u = .z ∧ w.parts = [])) ∧ u.hf = true := by
    rcases h2 with ⟨hne, rfl | ⟨g, rfl⟩⟩ | ⟨rfl, h⟩
    · exact ⟨.ro, rfl, .inl ⟨hne, .inl rfl⟩, rfl⟩
    · exact ⟨.ro, rfl, .inl ⟨hne, .inl rfl⟩, rfl⟩
    · exact ⟨.z, rfl, .inr ⟨rfl, h⟩, rfl⟩
  have hid : [AV.ptr a 0].map (lendK H 4) = [.eptr (w.cells (.sl s w.parts.length (encs strA w.parts) u))] := by
    show [lendK H 4 (.ptr a 0)] = _
    rw [lendK, h3]
    have : ((((w.cells (.sl s w.parts.length (encs strA w.parts) tk)).drop 0).map (lendK H 3)).map unown) = w.cells (unown (.sl s w.parts.length (encs strA w.parts) tk)) := rfl
    dsimp only
    rw [this, hu]
  have cl := fun H => clone_px hl h1 k2 H
  refine pcx_Lrow rfl hid ?_ (scal_strA _)
  refine pc_wp (fi := c50) rfl ?_ (by simp [c50]) (by decide) ?_
  · show (hfL [.eptr _] && hfL [lend (.eptr _)]) = true
    simp [lend, unown, Wk.cells, Wd.cells, hfL, AV.hf, hf_strA, kf]
  unfold c50
  rw [List.map_cons, List.map_nil]
  have el : ∀ cs, lend (.eptr cs) = .eptr cs := fun cs => rfl
  rw [el]
  unfold Wk.cells Wd.cells
  by_cases hp : w.parts = []
  · unfold prRow at cl ⊢
    rw [hp] at cl ⊢
    have ei : ([] : List (List UInt8)).isEmpty = true := rfl
    simp only [ei, if_true, List.length_nil, encs_nil] at cl ⊢
    simp only [List.cons_append, List.nil_append]
    simp (disch := omega) only [wk, avalE, aactE, evPE, boundE, asNat, bv_seql cellsEq_ii, bv_sneqd cellsEq_ii, readC, allOne, fillL, resE, tupled, ↓reduceIte, Nat.reduceEqDiff, Int.reduceEq, Int.reduceLT, Int.reduceLE, Nat.reduceAdd, Nat.reduceMul, Nat.reduceLT, Nat.reduceLeDiff, reduceCtorEq, none_ep, cl, in_none, runE_none ll_none, in_Asks, runE_none ll_Asks, in_Give, runE_none ll_Give, in_Miss, runE_none ll_Miss, in_Done, runE_none ll_Done, in_Copy, runE_none ll_Copy, in_on, runE_none ll_on, in_asked, runE_none ll_asked, in_into, runE_none ll_into, in_through, runE_none ll_through, in_ends, runE_none ll_ends, in_New, runE_none ll_New, in_same, runE_none ll_same, purify, unownT, unown, AV.hf, hfL, Tk.hf]
  · have ei : w.parts.isEmpty = false := by cases h : w.parts with
      | nil => exact absurd h hp
      | cons => rfl
    have n0 : w.parts.length ≠ 0 := fun e => hp (List.eq_nil_of_length_eq_zero e)
    have cl' : ∀ H, pcx (cbL tab) 75 [.sl s w.parts.length (encs strA w.parts) u] H = some (.fresh 1 w.parts.length (encs strA w.parts)) := fun H => by rw [cl H]; unfold prRow; rw [ei]; rfl
    simp only [List.cons_append, List.nil_append]
    simp (disch := omega) only [wk, avalE, aactE, evPE, boundE, asNat, bv_seql cellsEq_ii, bv_sneqd cellsEq_ii, readC, allOne, fillL, resE, tupled, ↓reduceIte, Nat.reduceEqDiff, Int.reduceEq, Int.reduceLT, Int.reduceLE, Nat.reduceAdd, Nat.reduceMul, Nat.reduceLT, Nat.reduceLeDiff, reduceCtorEq, none_ep, cl', in_none, runE_none ll_none, in_Asks, runE_none ll_Asks, in_Give, runE_none ll_Give, in_Miss, runE_none ll_Miss, in_Done, runE_none ll_Done, in_Copy, runE_none ll_Copy, in_on, runE_none ll_on, in_asked, runE_none ll_asked, in_into, runE_none ll_into, in_through, runE_none ll_through, in_ends, runE_none ll_ends, in_New, runE_none ll_New, in_same, runE_none ll_same]
    exact purify_row (fun _ => rfl) (.inr ⟨n0, _, rfl, rfl⟩) (fun e => absurd e hp)
theorem copy_ic {H : Heap} {a : Nat} {w : Wk} (hw : WatC H a w) (hl : w.parts.length ≤ 100000) : ∃ H', (cbL tab).ic 46 [.ptr a 0] H = some (.ret (.ptr H.length 0), H') ∧ WatC H' H.length w ∧ Still H H' := by
  obtain ⟨s, tk, h1, h2, h3⟩ := hw
  have cl := fun H => clone_px hl h1 h2 H
  simp only [Wk.cells, Wd.cells, List.cons_append, List.nil_append] at h3
  have hlt := (List.getElem?_eq_some_iff.1 h3).1
  have g0 : ∀ (L : List AObj), (H ++ L)[H.length]? = L[0]? := fun L => by rw [List.getElem?_append_right (by omega)]; congr 1; omega
  have s0 : ∀ (L : List AObj) (o : AObj), (H ++ L).set H.length o = H ++ L.set 0 o := fun L o => by rw [List.set_append_right _ _ (by omega)]; congr 2; omega
  have a1 : ∀ (L : List AObj), (H ++ L)[a]? = _ := fun L => (List.getElem?_append_left hlt).trans h3
  have n0 := none_ic h3
  by_cases hp : w.parts = []
  · unfold prRow at cl
    rw [hp] at cl h3 a1
    have ei : ([] : List (List UInt8)).isEmpty = true := rfl
    simp only [ei, if_true, List.length_nil, encs_nil] at cl h3 a1
    have key : ∃ o H', (cbL tab).ic 46 [.ptr a 0] H = some (o, H') ∧ o = .ret (.ptr H.length 0) ∧ H' = H ++ [.cells (w.cells (.sl 0 0 [] .z))] := by
      refine ic_wp (fi := c46) rfl rfl (by simp [c46]) (by decide) ?_
      unfold c46
      simp (disch := omega) only [wk, avalE, aactE, evPE, boundE, asNat, bv_seql cellsEq_ii, bv_sneqd cellsEq_ii, readC, allOne, fillL, resE, tupled, ↓reduceIte, Nat.reduceEqDiff, Int.reduceEq, Int.reduceLT, Int.reduceLE, Nat.reduceAdd, Nat.reduceMul, Nat.reduceLT, Nat.reduceLeDiff, reduceCtorEq, g0, s0, a1, h3, n0, cl, in_none, runE_none ll_none, in_Asks, runE_none ll_Asks, in_Give, runE_none ll_Give, in_Miss, runE_none ll_Miss, in_Done, runE_none ll_Done, in_Copy, runE_none ll_Copy, in_on, runE_none ll_on, in_asked, runE_none ll_asked, in_into, runE_none ll_into, in_through, runE_none ll_through, in_ends, runE_none ll_ends, in_New, runE_none ll_New, in_same, runE_none ll_same]
      rfl
    obtain ⟨o, H', h, rfl, rfl⟩ := key
    exact ⟨_, h, ⟨0, .z, fun h => absurd hp h, .inr ⟨rfl, hp⟩, by rw [hp]; exact g0 _⟩, Still.app _ _⟩
  · have ei : w.parts.isEmpty = false := by cases h : w.parts with
      | nil => exact absurd h hp
      | cons => rfl
    have cl' : ∀ H, pcx (cbL tab) 75 [.sl s w.parts.length (encs strA w.parts) tk] H = some (.fresh 1 w.parts.length (encs strA w.parts)) := fun H => by rw [cl H]; unfold prRow; rw [ei]; rfl
    have key : ∃ o H', (cbL tab).ic 46 [.ptr a 0] H = some (o, H') ∧ o = .ret (.ptr H.length 0) ∧ ∃ g L, H' = H ++ .cells (w.cells (.sl 1 w.parts.length (encs strA w.parts) (.own g))) :: L := by
      refine ic_wp (fi := c46) rfl rfl (by simp [c46]) (by decide) ?_
      unfold c46
      simp (disch := omega) only [wk, avalE, aactE, evPE, boundE, asNat, bv_seql cellsEq_ii, bv_sneqd cellsEq_ii, readC, allOne, fillL, resE, tupled, ↓reduceIte, Nat.reduceEqDiff, Int.reduceEq, Int.reduceLT, Int.reduceLE, Nat.reduceAdd, Nat.reduceMul, Nat.reduceLT, Nat.reduceLeDiff, reduceCtorEq, g0, s0, a1, h3, n0, cl', in_none, runE_none ll_none, in_Asks, runE_none ll_Asks, in_Give, runE_none ll_Give, in_Miss, runE_none ll_Miss, in_Done, runE_none ll_Done, in_Copy, runE_none ll_Copy, in_on, runE_none ll_on, in_asked, runE_none ll_asked, in_into, runE_none ll_into, in_through, runE_none ll_through, in_ends, runE_none ll_ends, in_New, runE_none ll_New, in_same, runE_none ll_same, List.append_assoc]
      exact ⟨_, _, rfl⟩
    obtain ⟨o, H', h, rfl, g, L, rfl⟩ := key
    exact ⟨_, h, ⟨1, .own g, fun _ => rfl, .inl ⟨hp, .inr ⟨g, rfl⟩⟩, g0 _⟩, Still.app _ _⟩
theorem ba_self (c : ByteArray) : (c == c) = true := by
  first
    | exact beq_self_eq_true c.data
    | exact decide_eq_true rfl
    | (cases c; simp [BEq.beq])
theorem wd_neq {xo yo : X} {a b d e : Int} {c : ByteArray} : binV .neq (.struct [0, 0, 2, 0, 0]) xo yo (.agg [.int .i64 a, .int .i64 b, .str c, .int .i64 d, .int .i64 e]) (.agg [.int .i64 a, .int .i64 b, .str c, .int .i64 d, .int .i64 e]) = some (.bool false) := by
  have ke : ∀ a : Int, cellEq 0 (.int .i64 a) (.int .i64 a) = some true := cellEq_self
  have ks : cellEq 2 (.str c) (.str c) = some true := by show some (c == c) = _; rw [ba_self]
  show (cellsEq _ _ _).map _ = _
  simp only [cellsEq, ke, ks]
  rfl
theorem miss_over {H : Heap} {a : Nat} {w : Wk} (hw : Wat H a w) (hf : w.fin.isSome = true) : (cbL tab).ic 38 [.ptr a 0] H = some (.ret (.int .i64 5), H) := by
  have as1 := asked_ic hw
  rw [hf] at as1
  simp only [if_true] at as1
  have key : ∃ o H', (cbL tab).ic 38 [.ptr a 0] H = some (o, H') ∧ o = .ret (.int .i64 5) ∧ H' = H := by
    refine ic_wp (fi := c38) rfl rfl (by simp [c38]) (by decide) ?_
    unfold c38
    simp (disch := omega) only [wk, avalE, aactE, evPE, boundE, asNat, bv_seql cellsEq_ii, bv_sneqd cellsEq_ii, readC, allOne, fillL, resE, tupled, ↓reduceIte, Nat.reduceEqDiff, Int.reduceEq, Int.reduceLT, Int.reduceLE, Nat.reduceAdd, Nat.reduceMul, Nat.reduceLT, Nat.reduceLeDiff, reduceCtorEq, as1, in_none, runE_none ll_none, in_Asks, runE_none ll_Asks, in_Give, runE_none ll_Give, in_Miss, runE_none ll_Miss, in_Done, runE_none ll_Done, in_Copy, runE_none ll_Copy, in_on, runE_none ll_on, in_asked, runE_none ll_asked, in_into, runE_none ll_into, in_through, runE_none ll_through, in_ends, runE_none ll_ends, in_New, runE_none ll_New, in_same, runE_none ll_same]
  obtain ⟨o, H', h, rfl, rfl⟩ := key
  exact h
theorem give_over {H : Heap} {a : Nat} {w : Wk} (hw : Wat H a w) (hf : w.fin.isSome = true) (f : Fnd) : ∃ H', (cbL tab).ic 37 [.ptr a 0, .agg f.cells] H = some (.ret (.int .i64 5), H') ∧ Wat H' a w ∧ Keep a H H' := by
  have as1 := fun L => asked_ic (hw.app L)
  rw [hf] at as1
  simp only [if_true] at as1
  have key : ∃ o H', (cbL tab).ic 37 [.ptr a 0, .agg f.cells] H = some (o, H') ∧ o = .ret (.int .i64 5) ∧ H' = H ++ [.cells f.cells] := by
    refine ic_wp (fi := c37) rfl rfl (by simp [c37]) (by decide) ?_
    unfold c37 Fnd.cells
    simp (disch := omega) only [wk, avalE, aactE, evPE, boundE, asNat, bv_seql cellsEq_ii, bv_sneqd cellsEq_ii, readC, allOne, fillL, resE, tupled, ↓reduceIte, Nat.reduceEqDiff, Int.reduceEq, Int.reduceLT, Int.reduceLE, Nat.reduceAdd, Nat.reduceMul, Nat.reduceLT, Nat.reduceLeDiff, reduceCtorEq, as1, in_none, runE_none ll_none, in_Asks, runE_none ll_Asks, in_Give, runE_none ll_Give, in_Miss, runE_none ll_Miss, in_Done, runE_none ll_Done, in_Copy, runE_none ll_Copy, in_on, runE_none ll_on, in_asked, runE_none ll_asked, in_into, runE_none ll_into, in_through, runE_none ll_through, in_ends, runE_none ll_ends, in_New, runE_none ll_New, in_same, runE_none ll_same]
  obtain ⟨o, H', h, rfl, rfl⟩ := key
  exact ⟨_, h, hw.app _, Keep.app _ _ _⟩
theorem same_ic {H : Heap} {a : Nat} {w : Wk} (hW : WatC H a w) (hA : w.fin.isSome = true ∨ Asking w) {s : Nat} {tk : Tk} (h1 : w.parts ≠ [] → s = 1) (ht : tk.hf = true) (hl : w.parts.length ≤ 10000) :
    ∃ H', (cbL tab).ic 47 [.ptr a 0, .agg (rcells w (.sl s w.parts.length (encs strA w.parts) tk))] H = some (.ret (.bool true), H') ∧ Still H H' := by
  have hW1 := hW.still (Still.app H [.cells (rcells w (.sl s w.parts.length (encs strA w.parts) tk))])
  obtain ⟨G, d1, d2⟩ := doneC_ic hW1
  have b0 := d2 H.length (.cells (rcells w (.sl s w.parts.length (encs strA w.parts) tk))) (by rw [List.getElem?_append_right (Nat.le_refl _), Nat.sub_self]; rfl)
  have hWG := hW1.still d2
  have hlt := (List.getElem?_eq_some_iff.1 b0).1
  have gG : ∀ (L : List AObj), (G ++ L)[G.length]? = L[0]? := fun L => by rw [List.getElem?_append_right (by omega)]; congr 1; omega
  have sG : ∀ (L : List AObj) (o : AObj), (G ++ L).set G.length o = G ++ L.set 0 o := fun L o => by rw [List.set_append_right _ _ (by omega)]; congr 2; omega
  have bG : ∀ L : List AObj, (G ++ L)[H.length]? = _ := fun L => (List.getElem?_append_left hlt).trans b0
  have lf := fun L => left_px (hWG.still (Still.app G L)) (by omega)
  have sp := fun H s1 k1 z1 => same_px w.parts w.parts s1 s k1 tk (by omega) (by omega) z1 h1 H
  unfold rcells Wd.cells at bG b0
  unfold Wd.cells at d1
  simp only [List.cons_append, List.nil_append] at bG b0
  have ft : (false == true) = false := rfl
  have tf : (true == false) = false := rfl
  have key : ∃ o H', (cbL tab).ic 47 [.ptr a 0, .agg (rcells w (.sl s w.parts.length (encs strA w.parts) tk))] H = some (o, H') ∧ o = .ret (.bool true) ∧ Still G H' := by
    refine ic_wp (fi := c47) rfl rfl (by simp [c47]) (by decide) ?_
    unfold c47
    unfold rcells Wd.cells at d1 hW1 ⊢
    simp only [List.cons_append, List.nil_append] at d1 hW1 ⊢
    rcases hA with hf | hA
    · have ao := asksC_over hW1 hf
      rw [hf] at d1 bG ao hW1 ⊢
      by_cases hp : w.parts = []
      · have lf' : ∀ L, pcx (cbL tab) 50 [.ptr a 0] (G ++ L) = some (.plain (.sl 0 0 [] .z)) := fun L => by rw [lf L, hp]; rfl
        have sp' : ∀ H, pcx (cbL tab) 20 [.sl 0 0 [] .z, .sl s 0 [] tk] H = some (.plain (.bool true)) := fun H => by
          have := sp H 0 .z (fun h => absurd hp h)
          rw [hp] at this
          exact this
        rw [hp] at d1 bG ao ⊢
        simp only [List.length_nil, encs_nil] at d1 bG ao ⊢
        simp (disch := omega) only [wk, avalE, aactE, evPE, boundE, asNat, bv_seql cellsEq_ii, bv_sneqd cellsEq_ii, readC, allOne, fillL, resE, tupled, ↓reduceIte, Nat.reduceEqDiff, Int.reduceEq, Int.reduceLT, Int.reduceLE, Nat.reduceAdd, Nat.reduceMul, Nat.reduceLT, Nat.reduceLeDiff, reduceCtorEq, ft, tf, ao, d1, bG, gG, sG, lf', sp', wd_neq, kemp, runG_un, bv_streq, bs_toList, in_none, runE_none ll_none, in_Asks, runE_none ll_Asks, in_Give, runE_none ll_Give, in_Miss, runE_none ll_Miss, in_Done, runE_none ll_Done, in_Copy, runE_none ll_Copy, in_on, runE_none ll_on, in_asked, runE_none ll_asked, in_into, runE_none ll_into, in_through, runE_none ll_through, in_ends, runE_none ll_ends, in_New, runE_none ll_New, in_same, runE_none ll_same]
        exact Still.app _ _
      · have ei : w.parts.isEmpty = false := by cases h : w.parts with
          | nil => exact absurd h hp
          | cons => rfl
        have lf' : ∀ L, pcx (cbL tab) 50 [.ptr a 0] (G ++ L) = some (.fresh 1 w.parts.length (encs strA w.parts)) := fun L => by rw [lf L]; unfold prRow; rw [ei]; rfl
        have sp' := fun H g => sp H 1 (.own g) (fun _ => rfl)
        simp (disch := omega) only [wk, avalE, aactE, evPE, boundE, asNat, bv_seql cellsEq_ii, bv_sneqd cellsEq_ii, readC, allOne, fillL, resE, tupled, ↓reduceIte, Nat.reduceEqDiff, Int.reduceEq, Int.reduceLT, Int.reduceLE, Nat.reduceAdd, Nat.reduceMul, Nat.reduceLT, Nat.reduceLeDiff, reduceCtorEq, ft, tf, ao, d1, bG, gG, sG, lf', sp', wd_neq, kemp, runG_un, bv_streq, bs_toList, List.append_assoc, in_none, runE_none ll_none, in_Asks, runE_none ll_Asks, in_Give, runE_none ll_Give, in_Miss, runE_none ll_Miss, in_Done, runE_none ll_Done, in_Copy, runE_none ll_Copy, in_on, runE_none ll_on, in_asked, runE_none ll_asked, in_into, runE_none ll_into, in_through, runE_none ll_through, in_ends, runE_none ll_ends, in_New, runE_none ll_New, in_same, runE_none ll_same]
        exact Still.app _ _
    · obtain ⟨hf, hne, _, _⟩ := hA
      obtain ⟨q, r, hqr⟩ : ∃ q r, w.parts = q :: r := by
        cases h : w.parts with
        | nil => exact absurd h hne
        | cons q r => exact ⟨q, r, rfl⟩
      have ao := asksC_ic hW1 hf hqr
      have ei : w.parts.isEmpty = false := by rw [hqr]; rfl
      have lf' : ∀ L, pcx (cbL tab) 50 [.ptr a 0] (G ++ L) = some (.fresh 1 w.parts.length (encs strA w.parts)) := fun L => by rw [lf L]; unfold prRow; rw [ei]; rfl
      have sp' := fun H g => sp H 1 (.own g) (fun _ => rfl)
      obtain rfl := h1 hne
      have e1 : encs strA (q :: r) = .str (bs q) :: encs strA r := rfl
      have qq : (q == q) = true := by simp
      have ff : (false == false) = true := rfl
      simp only [hqr, e1, List.length_cons] at d1 bG lf' sp' ao ⊢
      simp only [hf, Option.isSome_none] at d1 bG ao ⊢
      simp (disch := omega) only [wk, avalE, aactE, evPE, boundE, asNat, bv_seql cellsEq_ii, bv_sneqd cellsEq_ii, readC, allOne, fillL, resE, tupled, ↓reduceIte, Nat.reduceEqDiff, Int.reduceEq, Int.reduceLT, Int.reduceLE, Nat.reduceAdd, Nat.reduceMul, Nat.reduceLT, Nat.reduceLeDiff, reduceCtorEq, ft, tf, ff, ao, d1, bG, gG, sG, lf', sp', wd_neq, kemp, runG_un, bv_streq, bs_toList, qq, Int.toNat_zero, List.append_assoc, in_none, runE_none ll_none, in_Asks, runE_none ll_Asks, in_Give, runE_none ll_Give, in_Miss, runE_none ll_Miss, in_Done, runE_none ll_Done, in_Copy, runE_none ll_Copy, in_on, runE_none ll_on, in_asked, runE_none ll_asked, in_into, runE_none ll_into, in_through, runE_none ll_through, in_ends, runE_none ll_ends, in_New, runE_none ll_New, in_same, runE_none ll_same]
      exact Still.app _ _
  obtain ⟨o, H', k1, rfl, k2⟩ := key
  exact ⟨H', k1, ((Still.app H _).trans d2).trans k2⟩
end Go.Proofs.YtmogflndepihnaaDoor
