/- NO SUCH NAME; A NEW WALKER. No condition but those stated. -/
import Derived.Test.YtmogflndepihnaaDoorW7
import Derived.Test.YtmogflndepihnaaDoorAmOpen
set_option linter.unusedSimpArgs false
set_option linter.unusedVariables false
set_option linter.unusedSectionVars false
namespace Go.Proofs.YtmogflndepihnaaDoor
open Go Go.Am Go.Nam Go.Wlk Go.Rec
set_option maxHeartbeats 4000000
set_option maxRecDepth 10000
theorem miss_ic {H : Heap} {a : Nat} {w : Wk} (hw : Wat H a w) (hf : w.fin = none) (hl : w.parts.length ≤ 10000) :
    ∃ H', (cbL tab).ic 38 [.ptr a 0] H = some (.ret (.int .i64 0), H') ∧ Wat H' a (missM w) ∧ Keep a H H' := by
  have as1 := asked_ic hw
  rw [hf] at as1
  simp only [Option.isSome_none, Bool.false_eq_true, if_false] at as1
  obtain ⟨at_, l, links, fol, fin⟩ := w
  dsimp only at hf hl
  subst hf
  obtain ⟨s, tk, h1, h2, h3⟩ := hw
  dsimp only at h1 h2 h3
  simp only [Wk.cells, Wk.endA, Option.getD_none, zeroW, Wd.cells, Option.isSome_none, List.cons_append, List.nil_append] at h3
  have hlt := (List.getElem?_eq_some_iff.1 h3).1
  have key : ∃ o H', (cbL tab).ic 38 [.ptr a 0] H = some (o, H') ∧ o = .ret (.int .i64 0) ∧ Wat H' a (missM ⟨at_, l, links, fol, none⟩) ∧ Keep a H H' := by
    refine ic_wp (fi := c38) rfl rfl (by simp [c38]) (by decide) ?_
    unfold c38
    have g0 : ∀ (L : List AObj), (H ++ L)[H.length]? = L[0]? := fun L => by rw [List.getElem?_append_right (by omega)]; congr 1; omega
    have s0 : ∀ (L : List AObj) (o : AObj), (H ++ L).set H.length o = H ++ L.set 0 o := fun L o => by rw [List.set_append_right _ _ (by omega)]; congr 2; omega
    have a1 : ∀ (L : List AObj), (H ++ L)[a]? = _ := fun L => (List.getElem?_append_left hlt).trans h3
    have fv : ∀ o o' cs, floatV [.ptr a o, .eptr cs] [.ptr H.length o'] = true := fun o o' cs => by rw [floatV_p (by rw [offP_ptr (by omega)]; rfl), floatV_e]; exact floatV_nil
    by_cases hl1 : l.length = 1
    · obtain ⟨p, rfl⟩ : ∃ p, l = [p] := by
        cases l with
        | nil => simp at hl1
        | cons p r => cases r with
          | nil => exact ⟨p, rfl⟩
          | cons q r => simp at hl1
      obtain rfl := h1 (by simp)
      have e1 : encs strA [p] = [.str (bs p)] := rfl
      simp only [List.length_cons, List.length_nil, Nat.zero_add, e1] at h3 a1
      have ee := fun L => ends_ic (a1 L) ⟨270, at_, p, 0, 0⟩
      obtain ⟨H', q1, q2, q3⟩ := ee [.cells [.int .i64 270, .int .i64 at_, .str (bs p), .int .i64 0, .int .i64 0]]
      simp only [Wd.cells] at q1
      simp (disch := omega) only [wk, avalE, aactE, evPE, boundE, asNat, bv_seql cellsEq_ii, bv_sneqd cellsEq_ii, readC, allOne, fillL, resE, tupled, ↓reduceIte, Nat.reduceEqDiff, Int.reduceEq, Int.reduceLT, Int.reduceLE, Nat.reduceAdd, Nat.reduceMul, Nat.reduceLT, Nat.reduceLeDiff, reduceCtorEq, g0, s0, a1, h3, as1, fv, kemp, q1, Int.toNat_zero, in_none, runE_none ll_none, in_Asks, runE_none ll_Asks, in_Give, runE_none ll_Give, in_Miss, runE_none ll_Miss, in_Done, runE_none ll_Done, in_Copy, runE_none ll_Copy, in_on, runE_none ll_on, in_asked, runE_none ll_asked, in_into, runE_none ll_into, in_through, runE_none ll_through, in_ends, runE_none ll_ends, in_New, runE_none ll_New, in_same, runE_none ll_same]
      exact ⟨⟨0, .z, fun h => absurd rfl h, .inr ⟨rfl, rfl⟩, q2⟩, (Keep.app a _ _).trans q3⟩
    · have n1 : ¬ (l.length : Int) = 1 := by omega
      have hm : missM ⟨at_, l, links, fol, none⟩ = endM ⟨at_, l, links, fol, none⟩ ⟨270, 0, [], 0, 0⟩ := by
        unfold missM
        dsimp only
        split
        · rename_i q h; simp at hl1
        · rfl
      rw [hm]
      obtain ⟨H', q1, q2, q3⟩ := ends_ic (a1 [.cells [.int .i64 270, .int .i64 0, .str (bs []), .int .i64 0, .int .i64 0]]) ⟨270, 0, [], 0, 0⟩
      simp only [Wd.cells] at q1
      simp (disch := omega) only [wk, avalE, aactE, evPE, boundE, asNat, bv_seql cellsEq_ii, bv_sneqd cellsEq_ii, readC, allOne, fillL, resE, tupled, ↓reduceIte, Nat.reduceEqDiff, Int.reduceEq, Int.reduceLT, Int.reduceLE, Nat.reduceAdd, Nat.reduceMul, Nat.reduceLT, Nat.reduceLeDiff, reduceCtorEq, g0, s0, a1, h3, as1, fv, kemp, q1, n1, in_none, runE_none ll_none, in_Asks, runE_none ll_Asks, in_Give, runE_none ll_Give, in_Miss, runE_none ll_Miss, in_Done, runE_none ll_Done, in_Copy, runE_none ll_Copy, in_on, runE_none ll_on, in_asked, runE_none ll_asked, in_into, runE_none ll_into, in_through, runE_none ll_through, in_ends, runE_none ll_ends, in_New, runE_none ll_New, in_same, runE_none ll_same]
      exact ⟨⟨0, .z, fun h => absurd rfl h, .inr ⟨rfl, rfl⟩, q2⟩, (Keep.app a _ _).trans q3⟩
  obtain ⟨o, H', k1, rfl, k2, k3⟩ := key
  exact ⟨H', k1, k2, k3⟩
theorem new_no {path : List UInt8} {fol : Bool} (hl : path.length ≤ 5000) (hp : partsE path ≠ 0) (H : Heap) :
    (cbL tab).ic 33 [.str (bs path), .bool fol] H = some (.ret (.tup [.nilp, .int .i64 (partsE path)]), H) := by
  have pp := fun H => parts_px path hl H
  unfold partsV at pp
  have key : ∃ o H', (cbL tab).ic 33 [.str (bs path), .bool fol] H = some (o, H') ∧ o = .ret (.tup [.nilp, .int .i64 (partsE path)]) ∧ H' = H := by
    refine ic_wp (fi := c33) rfl rfl (by simp [c33]) (by decide) ?_
    unfold c33
    simp (disch := omega) only [wk, avalE, aactE, evPE, boundE, asNat, bv_seql cellsEq_ii, bv_sneqd cellsEq_ii, readC, allOne, fillL, resE, tupled, ↓reduceIte, Nat.reduceEqDiff, Int.reduceEq, Int.reduceLT, Int.reduceLE, Nat.reduceAdd, Nat.reduceMul, Nat.reduceLT, Nat.reduceLeDiff, reduceCtorEq, pp, hp, in_none, runE_none ll_none, in_Asks, runE_none ll_Asks, in_Give, runE_none ll_Give, in_Miss, runE_none ll_Miss, in_Done, runE_none ll_Done, in_Copy, runE_none ll_Copy, in_on, runE_none ll_on, in_asked, runE_none ll_asked, in_into, runE_none ll_into, in_through, runE_none ll_through, in_ends, runE_none ll_ends, in_New, runE_none ll_New, in_same, runE_none ll_same]
  obtain ⟨o, H', h, rfl, rfl⟩ := key
  exact h
theorem new_ic {path : List UInt8} {fol : Bool} (hl : path.length ≤ 5000) (hp : partsE path = 0) (H : Heap) :
    ∃ H', (cbL tab).ic 33 [.str (bs path), .bool fol] H = some (.ret (.tup [.ptr H.length 0, .int .i64 0]), H') ∧ Wat H' H.length (newM path fol) ∧ Keep H.length H H' := by
  have pp := fun H => parts_px path hl H
  unfold partsV at pp
  obtain ⟨s, tk, r1, r2, r3⟩ := rowV_form path
  have r4 : tk = .ro := by
    unfold rowV at r1
    rw [if_pos hp] at r1
    injection r1 with _ _ _ h
    exact h.symm
  have bp := partsM_small path
  have hcp : partsM path = cutP path := if_pos hp
  rw [r1] at pp
  rw [hcp] at pp r2 bp
  have key : ∃ o H', (cbL tab).ic 33 [.str (bs path), .bool fol] H = some (o, H') ∧ o = .ret (.tup [.ptr H.length 0, .int .i64 0]) ∧ Wat H' H.length (newM path fol) ∧ Keep H.length H H' := by
    refine ic_wp (fi := c33) rfl rfl (by simp [c33]) (by decide) ?_
    unfold c33
    have g0 : ∀ (L : List AObj), (H ++ L)[H.length]? = L[0]? := fun L => by rw [List.getElem?_append_right (by omega)]; congr 1; omega
    obtain ⟨H', q1, q2, q3⟩ := on_ic (H := H ++ [AObj.cells [.int .i64 0, .int .i64 0, .str (bs []), .int .i64 0, .int .i64 0, .bool false, .int .i64 1, .sl s (cutP path).length (encs strA (cutP path)) tk, .int .i64 0, .bool fol, .bool true]]) (a := H.length) (w := ⟨1, cutP path, 0, fol, none⟩) ⟨s, tk, r2, .inl ⟨r4, rfl⟩, g0 _⟩ rfl (by dsimp only; omega)
    simp (disch := omega) only [wk, avalE, aactE, evPE, boundE, asNat, bv_seql cellsEq_ii, bv_sneqd cellsEq_ii, readC, allOne, fillL, resE, tupled, ↓reduceIte, Nat.reduceEqDiff, Int.reduceEq, Int.reduceLT, Int.reduceLE, Nat.reduceAdd, Nat.reduceMul, Nat.reduceLT, Nat.reduceLeDiff, reduceCtorEq, pp, hp, kemp, q1, in_none, runE_none ll_none, in_Asks, runE_none ll_Asks, in_Give, runE_none ll_Give, in_Miss, runE_none ll_Miss, in_Done, runE_none ll_Done, in_Copy, runE_none ll_Copy, in_on, runE_none ll_on, in_asked, runE_none ll_asked, in_into, runE_none ll_into, in_through, runE_none ll_through, in_ends, runE_none ll_ends, in_New, runE_none ll_New, in_same, runE_none ll_same]
    exact ⟨q2, (Keep.app _ _ _).trans q3⟩
  obtain ⟨o, H', k1, rfl, k2, k3⟩ := key
  exact ⟨H', k1, k2, k3⟩
structure Pl where
  dir : Int
  name : List UInt8
  is : Fnd
def placeA (x : Pl) : List AV := [.int .i64 x.dir, .str (bs x.name), .int .i64 x.is.inode, .int .i64 x.is.kind, .str (bs x.is.target)]
instance : Even placeA 5 := ⟨fun _ => rfl⟩
theorem hf_placeA (l : List Pl) : hfL (encs placeA l) = true := hfL_encs (fun _ => rfl) l
def findM : List Pl → Int → List UInt8 → Option Fnd
  | [], _, _ => none
  | x :: r, d, n => if x.dir = d ∧ (x.name == n) = true then some x.is else findM r d n
def zeroF : Fnd := ⟨0, 0, []⟩
def fewB (l : List Pl) : Bool := decide (l.length ≤ 60) && l.all fun x => decide (x.is.target.length ≤ 112)
theorem ok_places {v : AV} (h : OkS (.slice [.int .i64, .str, .int .i64, .int .i64, .str]) v) : ∃ (l : List Pl) (tk : Tk), v = .sl 5 l.length (encs placeA l) tk ∧ (l.length : Int) ≤ 9223372036854775807 ∧ tk.hf = true := by
  cases h with
  | slnil _ => exact ⟨[], .z, rfl, by decide, rfl⟩
  | sl _ rows hm hl hr =>
    have : ∀ rows : List (List AV), (∀ r ∈ rows, r.length = 5) → (∀ r ∈ rows, ∀ (i : Nat) (s : Sh) (v : AV), [Sh.int .i64, .str, .int .i64, .int .i64, .str][i]? = some s → r[i]? = some v → OkS s v) →
        ∃ l : List Pl, rows.flatten = encs placeA l ∧ l.length = rows.length := by
      intro rows
      induction rows with
      | nil => intro _ _; exact ⟨[], rfl, rfl⟩
      | cons r rows ih =>
        intro h1 h2
        obtain ⟨l, k1, k2⟩ := ih (fun r hr => h1 r (List.mem_cons_of_mem _ hr)) (fun r hr => h2 r (List.mem_cons_of_mem _ hr))
        have hr1 := h1 r (List.mem_cons_self ..)
        have h2 := h2 r (List.mem_cons_self ..)
        match r, hr1 with
        | [v0, v1, v2, v3, v4], _ =>
          have o0 := h2 0 _ _ rfl rfl
          have o1 := h2 1 _ _ rfl rfl
          have o2 := h2 2 _ _ rfl rfl
          have o3 := h2 3 _ _ rfl rfl
          have o4 := h2 4 _ _ rfl rfl
          cases o0 with | int _ n0 _ _ =>
          cases o1 with | str s1 _ =>
          cases o2 with | int _ n2 _ _ =>
          cases o3 with | int _ n3 _ _ =>
          cases o4 with | str s4 _ =>
          refine ⟨⟨n0, s1.data.toList, ⟨n2, n3, s4.data.toList⟩⟩ :: l, ?_, by simp [k2]⟩
          rw [List.flatten_cons, k1, encs_cons]
          unfold placeA
          dsimp only
          rw [bs_eta, bs_eta]
    obtain ⟨l, k1, k2⟩ := this rows hl hr
    exact ⟨l, .ro, by rw [k1, k2]; rfl, by omega, rfl⟩
theorem drop_pl (pre : List Pl) (x : Pl) (r : List Pl) : List.drop (pre.length * 5) (encs placeA (pre ++ x :: r)) = placeA x ++ encs placeA r := by
  have := drop_pre (f := placeA) pre (x :: r)
  rw [this]; rfl
theorem find_px (l : List Pl) (sz : Nat) (hsz : l ≠ [] → sz = 5) (tk : Tk) (dir : Int) (name : List UInt8) (hn : l.length ≤ 10000) (H : Heap) :
    pcx (cbL tab) 36 [.sl sz l.length (encs placeA l) tk, .int .i64 dir, .str (bs name)] H = some (.plain (.tup [.agg ((findM l dir name).getD zeroF).cells, .bool (findM l dir name).isSome])) := by
  obtain ⟨u1, e1, f1⟩ := lend_sl sz l.length (encs placeA l) tk
  refine pcx_N rfl (pc_wp (fi := c36) rfl ?_ (by simp [c36]) (by decide) ?_)
  · simp only [pcOn, List.map_cons, List.map_nil, hfL, hf_lend_sl, hf_lend_int, hf_lend_bool, hf_lend_str, hfL_append, Bool.and_self, Bool.and_true, Bool.true_and, c36, hf_placeA]
  unfold c36
  rw [List.map_cons, List.map_cons, List.map_cons, List.map_nil, e1, lend_int, lend_str]
  simp (disch := omega) only [wk, avalE, aactE, evPE, boundE, asNat, bv_seql cellsEq_ii, bv_sneqd cellsEq_ii, readC, allOne, fillL, resE, tupled, ↓reduceIte, Nat.reduceEqDiff, Int.reduceEq, Int.reduceLT, Int.reduceLE, Nat.reduceAdd, Nat.reduceMul, Nat.reduceLT, Nat.reduceLeDiff, reduceCtorEq]
  refine loop_ind (fun (x : List Pl × List Pl) E df H => l = x.1 ++ x.2 ∧ findM l dir name = findM x.2 dir name ∧ E 0 = .sl sz l.length (encs placeA l) u1 ∧ E 1 = .int .i64 dir ∧ E 2 = .str (bs name) ∧ E 6 = .ptr 0 0 ∧ E 7 = .bool false ∧ E 8 = .int .i64 (x.1.length : Nat) ∧ df = [] ∧ H = [.cells [.int .i64 0, .int .i64 0, .str (ByteArray.mk (Array.mk []))]])
    (fun x => x.2.length) ([], l) (by decide) (.inl rfl) ⟨rfl, rfl, rfl, rfl, rfl, rfl, rfl, rfl, rfl, rfl⟩ ?_
  intro ⟨pre, suf⟩ E df H ih hP
  obtain ⟨a1, a2, E0, E1, E2, E6, E7, E8, hdf, hH⟩ := hP
  dsimp only at a1 a2 E8
  subst hdf hH
  have la : l.length = pre.length + suf.length := by rw [a1, List.length_append]
  cases suf with
  | nil =>
    have n1 : ¬ (pre.length : Int) < (l.length : Int) := by simp at la; omega
    rw [a2]
    unfold findM
    simp (disch := omega) only [wk, avalE, aactE, evPE, boundE, asNat, bv_seql cellsEq_ii, bv_sneqd cellsEq_ii, readC, allOne, fillL, resE, tupled, ↓reduceIte, Nat.reduceEqDiff, Int.reduceEq, Int.reduceLT, Int.reduceLE, Nat.reduceAdd, Nat.reduceMul, Nat.reduceLT, Nat.reduceLeDiff, reduceCtorEq, E0, E1, E2, E6, E7, E8, n1, purify, unownT, unown, AV.hf, hfL, Option.getD_none, Option.isSome_none, zeroF, Fnd.cells]
    rfl
  | cons x r =>
    obtain rfl := hsz (by rw [a1]; simp)
    simp only [List.length_cons] at la
    have n1 : (pre.length : Int) < (l.length : Int) := by omega
    have d1 := drop_pl pre x r
    rw [← a1] at d1
    simp only [placeA, List.cons_append, List.nil_append] at d1
    rw [findM] at a2
    by_cases hd : x.dir = dir
    · cases hnm : (x.name == name) with
      | true =>
        rw [if_pos ⟨hd, hnm⟩] at a2
        rw [a2]
        simp (disch := omega) only [wk, avalE, aactE, evPE, boundE, asNat, bv_seql cellsEq_ii, bv_sneqd cellsEq_ii, readC, allOne, fillL, resE, tupled, ↓reduceIte, Nat.reduceEqDiff, Int.reduceEq, Int.reduceLT, Int.reduceLE, Nat.reduceAdd, Nat.reduceMul, Nat.reduceLT, Nat.reduceLeDiff, reduceCtorEq, E0, E1, E2, E6, E7, E8, n1, d1, hd, bv_streq, bs_toList, hnm, purify, unownT, unown, AV.hf, hfL, Option.getD_some, Option.isSome_some, Fnd.cells]
      | false =>
        rw [if_neg (by rintro ⟨_, h⟩; rw [hnm] at h; cases h)] at a2
        simp (disch := omega) only [wk, avalE, aactE, evPE, boundE, asNat, bv_seql cellsEq_ii, bv_sneqd cellsEq_ii, readC, allOne, fillL, resE, tupled, ↓reduceIte, Nat.reduceEqDiff, Int.reduceEq, Int.reduceLT, Int.reduceLE, Nat.reduceAdd, Nat.reduceMul, Nat.reduceLT, Nat.reduceLeDiff, reduceCtorEq, E0, E1, E2, E6, E7, E8, n1, d1, hd, bv_streq, bs_toList, hnm]
        refine ih (pre ++ [x], r) _ _ _ (by simp) ?_
        exact ⟨by simp [a1], a2, by simp only [en, ↓reduceIte, Nat.reduceEqDiff, E0], by simp only [en, ↓reduceIte, Nat.reduceEqDiff, E1], by simp only [en, ↓reduceIte, Nat.reduceEqDiff, E2], by simp only [en, ↓reduceIte, Nat.reduceEqDiff, E6], by simp only [en, ↓reduceIte, Nat.reduceEqDiff, E7], by simp only [en, ↓reduceIte, Nat.reduceEqDiff], rfl, rfl⟩
    · rw [if_neg (fun h => hd h.1)] at a2
      simp (disch := omega) only [wk, avalE, aactE, evPE, boundE, asNat, bv_seql cellsEq_ii, bv_sneqd cellsEq_ii, readC, allOne, fillL, resE, tupled, ↓reduceIte, Nat.reduceEqDiff, Int.reduceEq, Int.reduceLT, Int.reduceLE, Nat.reduceAdd, Nat.reduceMul, Nat.reduceLT, Nat.reduceLeDiff, reduceCtorEq, E0, E1, E2, E6, E7, E8, n1, d1, hd, bv_streq, bs_toList]
      refine ih (pre ++ [x], r) _ _ _ (by simp) ?_
      exact ⟨by simp [a1], a2, by simp only [en, ↓reduceIte, Nat.reduceEqDiff, E0], by simp only [en, ↓reduceIte, Nat.reduceEqDiff, E1], by simp only [en, ↓reduceIte, Nat.reduceEqDiff, E2], by simp only [en, ↓reduceIte, Nat.reduceEqDiff, E6], by simp only [en, ↓reduceIte, Nat.reduceEqDiff, E7], by simp only [en, ↓reduceIte, Nat.reduceEqDiff], rfl, rfl⟩
theorem few17_px (l : List Pl) (tk : Tk) (htk : tk.hf = true) (hlen : (l.length : Int) ≤ 9223372036854775807) (H : Heap) :
    pcx (cbL tab) 31 [.sl 5 l.length (encs placeA l) tk] H = some (.plain (.bool (fewB l))) := by
  obtain ⟨u1, e1, f1⟩ := lend_sl 5 l.length (encs placeA l) tk
  refine pcx_N rfl (pc_wp (fi := c31) rfl ?_ (by simp [c31]) (by decide) ?_)
  · simp only [pcOn, List.map_cons, List.map_nil, hfL, hf_lend_sl, hf_lend_int, hf_lend_bool, hf_lend_str, hfL_append, Bool.and_self, Bool.and_true, Bool.true_and, c31, hf_placeA]
  unfold c31
  rw [List.map_cons, List.map_nil, e1]
  simp (disch := omega) only [wk, avalE, aactE, evPE, boundE, asNat, bv_seql cellsEq_ii, bv_sneqd cellsEq_ii, readC, allOne, fillL, resE, tupled, ↓reduceIte, Nat.reduceEqDiff, Int.reduceEq, Int.reduceLT, Int.reduceLE, Nat.reduceAdd, Nat.reduceMul, Nat.reduceLT, Nat.reduceLeDiff, reduceCtorEq]
  refine loop_ind (fun (x : List Pl × List Pl) E df H => l = x.1 ++ x.2 ∧ (x.1.all fun y => decide (y.is.target.length ≤ 112)) = true ∧ x.1.length ≤ 61 ∧ E 0 = .sl 5 l.length (encs placeA l) u1 ∧ E 3 = .int .i64 (x.1.length : Nat) ∧ df = [] ∧ H = [])
    (fun x => x.2.length) ([], l) (by decide) (.inl rfl) ⟨rfl, rfl, by simp, rfl, rfl, rfl, rfl⟩ ?_
  intro ⟨pre, suf⟩ E df H ih hP
  obtain ⟨a1, a2, a3, E0, E3, hdf, hH⟩ := hP
  dsimp only at a1 a2 a3 E3
  subst hdf hH
  have la : l.length = pre.length + suf.length := by rw [a1, List.length_append]
  unfold fewB
  cases suf with
  | nil =>
    have n1 : ¬ (pre.length : Int) < (l.length : Int) := by simp at la; omega
    rw [List.append_nil] at a1
    have hl : l.all (fun x => decide (x.is.target.length ≤ 112)) = true := by rw [a1]; exact a2
    rw [hl, Bool.and_true]
    have hc : decide (l.length ≤ 60) = decide ((l.length : Int) ≤ 60) := by by_cases h : l.length ≤ 60 <;> simp [h] <;> omega
    rw [hc]
    simp (disch := omega) only [wk, avalE, aactE, evPE, boundE, asNat, bv_seql cellsEq_ii, bv_sneqd cellsEq_ii, readC, allOne, fillL, resE, tupled, ↓reduceIte, Nat.reduceEqDiff, Int.reduceEq, Int.reduceLT, Int.reduceLE, Nat.reduceAdd, Nat.reduceMul, Nat.reduceLT, Nat.reduceLeDiff, reduceCtorEq, E0, E3, n1, purify, unownT, unown, AV.hf, hfL]
  | cons x r =>
    simp only [List.length_cons] at la
    have n1 : (pre.length : Int) < (l.length : Int) := by omega
    by_cases h60 : pre.length ≤ 60
    case neg =>
      have n2 : ¬ (pre.length : Int) ≤ 60 := by omega
      have hl : decide (l.length ≤ 60) = false := decide_eq_false (by omega)
      rw [hl, Bool.false_and]
      have n3 : ¬ (l.length : Int) ≤ 60 := by omega
      simp (disch := omega) only [wk, avalE, aactE, evPE, boundE, asNat, bv_seql cellsEq_ii, bv_sneqd cellsEq_ii, readC, allOne, fillL, resE, tupled, ↓reduceIte, Nat.reduceEqDiff, Int.reduceEq, Int.reduceLT, Int.reduceLE, Nat.reduceAdd, Nat.reduceMul, Nat.reduceLT, Nat.reduceLeDiff, reduceCtorEq, E0, E3, n1, n2, n3, purify, unownT, unown, AV.hf, hfL]
    have n2 : (pre.length : Int) ≤ 60 := by omega
    have d1 := drop_pl pre x r
    rw [← a1] at d1
    simp only [placeA, List.cons_append, List.nil_append] at d1
    by_cases ht : x.is.target.length ≤ 112
    · have n3 : ¬ (112 : Int) < (x.is.target.length : Nat) := by omega
      simp (disch := omega) only [wk, avalE, aactE, evPE, boundE, asNat, bv_seql cellsEq_ii, bv_sneqd cellsEq_ii, readC, allOne, fillL, resE, tupled, ↓reduceIte, Nat.reduceEqDiff, Int.reduceEq, Int.reduceLT, Int.reduceLE, Nat.reduceAdd, Nat.reduceMul, Nat.reduceLT, Nat.reduceLeDiff, reduceCtorEq, E0, E3, n1, n2, d1, bs_size, n3]
      refine ih (pre ++ [x], r) _ _ _ (by simp) ?_
      exact ⟨by simp [a1], by simp only [List.all_append, a2, List.all_cons, List.all_nil, decide_eq_true ht, Bool.and_self], by simp; omega, by simp only [en, ↓reduceIte, Nat.reduceEqDiff, E0], by simp only [en, ↓reduceIte, Nat.reduceEqDiff], rfl, rfl⟩
    · have n3 : (112 : Int) < (x.is.target.length : Nat) := by omega
      have hl : l.all (fun x => decide (x.is.target.length ≤ 112)) = false := by
        rw [a1, List.all_append, List.all_cons, decide_eq_false ht, Bool.false_and, Bool.and_false]
      rw [hl, Bool.and_false]
      simp (disch := omega) only [wk, avalE, aactE, evPE, boundE, asNat, bv_seql cellsEq_ii, bv_sneqd cellsEq_ii, readC, allOne, fillL, resE, tupled, ↓reduceIte, Nat.reduceEqDiff, Int.reduceEq, Int.reduceLT, Int.reduceLE, Nat.reduceAdd, Nat.reduceMul, Nat.reduceLT, Nat.reduceLeDiff, reduceCtorEq, E0, E3, n1, n2, d1, bs_size, n3, purify, unownT, unown, AV.hf, hfL]
end Go.Proofs.YtmogflndepihnaaDoor
