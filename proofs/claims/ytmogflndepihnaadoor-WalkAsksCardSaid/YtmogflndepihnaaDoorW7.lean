/- WHAT A WALKER ASKS, AND HOW IT ENDED. No condition but those stated. -/
import Derived.Test.YtmogflndepihnaaDoorW5
set_option linter.unusedSimpArgs false
set_option linter.unusedVariables false
set_option linter.unusedSectionVars false
namespace Go.Proofs.YtmogflndepihnaaDoor
open Go Go.Am Go.Nam Go.Wlk Go.Rec
set_option maxHeartbeats 4000000
set_option maxRecDepth 10000
theorem Wat.app {H : Heap} {a : Nat} {w : Wk} (h : Wat H a w) (L : List AObj) : Wat (H ++ L) a w := by
  obtain ⟨s, tk, h1, h2, h3⟩ := h
  exact ⟨s, tk, h1, h2, by rw [List.getElem?_append_left (List.getElem?_eq_some_iff.1 h3).1]; exact h3⟩
theorem Wat.keep {H H' : Heap} {a b : Nat} {w : Wk} (h : Wat H a w) (k : Keep b H H') (hab : a ≠ b) : Wat H' a w := by
  obtain ⟨s, tk, h1, h2, h3⟩ := h
  exact ⟨s, tk, h1, h2, k.2 _ _ hab h3⟩
theorem asked_ic {H : Heap} {a : Nat} {w : Wk} (hw : Wat H a w) : (cbL tab).ic 68 [.ptr a 0] H = some (.ret (.int .i64 (if w.fin.isSome then 5 else 0)), H) := by
  obtain ⟨s, tk, h1, h2, h3⟩ := hw
  simp only [Wk.cells, Wd.cells, List.cons_append, List.nil_append] at h3
  have n0 := none_ic h3
  have key : ∃ o H', (cbL tab).ic 68 [.ptr a 0] H = some (o, H') ∧ o = .ret (.int .i64 (if w.fin.isSome then 5 else 0)) ∧ H' = H := by
    refine ic_wp (fi := c68) rfl rfl (by simp [c68]) (by decide) ?_
    unfold c68
    cases hb : w.fin.isSome with
    | true => rw [hb] at h3; simp (disch := omega) only [wk, avalE, aactE, evPE, boundE, asNat, bv_seql cellsEq_ii, bv_sneqd cellsEq_ii, readC, allOne, fillL, resE, tupled, ↓reduceIte, Nat.reduceEqDiff, Int.reduceEq, Int.reduceLT, Int.reduceLE, Nat.reduceAdd, Nat.reduceMul, Nat.reduceLT, Nat.reduceLeDiff, reduceCtorEq, h3, n0, in_none, runE_none ll_none, in_Asks, runE_none ll_Asks, in_Give, runE_none ll_Give, in_Miss, runE_none ll_Miss, in_Done, runE_none ll_Done, in_Copy, runE_none ll_Copy, in_on, runE_none ll_on, in_asked, runE_none ll_asked, in_into, runE_none ll_into, in_through, runE_none ll_through, in_ends, runE_none ll_ends, in_New, runE_none ll_New, in_same, runE_none ll_same]
    | false => rw [hb] at h3; simp (disch := omega) only [wk, avalE, aactE, evPE, boundE, asNat, bv_seql cellsEq_ii, bv_sneqd cellsEq_ii, readC, allOne, fillL, resE, tupled, ↓reduceIte, Nat.reduceEqDiff, Int.reduceEq, Int.reduceLT, Int.reduceLE, Nat.reduceAdd, Nat.reduceMul, Nat.reduceLT, Nat.reduceLeDiff, reduceCtorEq, h3, n0, in_none, runE_none ll_none, in_Asks, runE_none ll_Asks, in_Give, runE_none ll_Give, in_Miss, runE_none ll_Miss, in_Done, runE_none ll_Done, in_Copy, runE_none ll_Copy, in_on, runE_none ll_on, in_asked, runE_none ll_asked, in_into, runE_none ll_into, in_through, runE_none ll_through, in_ends, runE_none ll_ends, in_New, runE_none ll_New, in_same, runE_none ll_same, Bool.false_eq_true]
  obtain ⟨o, H', h, rfl, rfl⟩ := key
  exact h
theorem asks_ic {H : Heap} {a : Nat} {w : Wk} (hw : Wat H a w) (hf : w.fin = none) {p : List UInt8} {r : List (List UInt8)} (hp : w.parts = p :: r) : (cbL tab).ic 35 [.ptr a 0] H = some (.ret (.tup [.int .i64 w.at_, .str (bs p), .bool true]), H) := by
  obtain ⟨s, tk, h1, h2, h3⟩ := hw
  rw [hp] at h1 h3
  obtain rfl := h1 (by simp)
  simp only [Wk.cells, Wd.cells, List.cons_append, List.nil_append, hf, Option.isSome_none] at h3
  have n0 := none_ic h3
  have e1 : encs strA (p :: r) = .str (bs p) :: encs strA r := rfl
  have key : ∃ o H', (cbL tab).ic 35 [.ptr a 0] H = some (o, H') ∧ o = .ret (.tup [.int .i64 w.at_, .str (bs p), .bool true]) ∧ H' = H := by
    refine ic_wp (fi := c35) rfl rfl (by simp [c35]) (by decide) ?_
    unfold c35
    simp (disch := omega) only [wk, avalE, aactE, evPE, boundE, asNat, bv_seql cellsEq_ii, bv_sneqd cellsEq_ii, readC, allOne, fillL, resE, tupled, ↓reduceIte, Nat.reduceEqDiff, Int.reduceEq, Int.reduceLT, Int.reduceLE, Nat.reduceAdd, Nat.reduceMul, Nat.reduceLT, Nat.reduceLeDiff, reduceCtorEq, h3, n0, e1, in_none, runE_none ll_none, in_Asks, runE_none ll_Asks, in_Give, runE_none ll_Give, in_Miss, runE_none ll_Miss, in_Done, runE_none ll_Done, in_Copy, runE_none ll_Copy, in_on, runE_none ll_on, in_asked, runE_none ll_asked, in_into, runE_none ll_into, in_through, runE_none ll_through, in_ends, runE_none ll_ends, in_New, runE_none ll_New, in_same, runE_none ll_same, Int.toNat_zero]
  obtain ⟨o, H', h, rfl, rfl⟩ := key
  exact h
theorem asks_over {H : Heap} {a : Nat} {w : Wk} (hw : Wat H a w) (hf : w.fin.isSome = true) : (cbL tab).ic 35 [.ptr a 0] H = some (.ret (.tup [.int .i64 0, .str (bs []), .bool false]), H) := by
  obtain ⟨s, tk, h1, h2, h3⟩ := hw
  simp only [Wk.cells, Wd.cells, List.cons_append, List.nil_append, hf] at h3
  have n0 := none_ic h3
  have key : ∃ o H', (cbL tab).ic 35 [.ptr a 0] H = some (o, H') ∧ o = .ret (.tup [.int .i64 0, .str (bs []), .bool false]) ∧ H' = H := by
    refine ic_wp (fi := c35) rfl rfl (by simp [c35]) (by decide) ?_
    unfold c35
    simp (disch := omega) only [wk, avalE, aactE, evPE, boundE, asNat, bv_seql cellsEq_ii, bv_sneqd cellsEq_ii, readC, allOne, fillL, resE, tupled, ↓reduceIte, Nat.reduceEqDiff, Int.reduceEq, Int.reduceLT, Int.reduceLE, Nat.reduceAdd, Nat.reduceMul, Nat.reduceLT, Nat.reduceLeDiff, reduceCtorEq, h3, n0, in_none, runE_none ll_none, in_Asks, runE_none ll_Asks, in_Give, runE_none ll_Give, in_Miss, runE_none ll_Miss, in_Done, runE_none ll_Done, in_Copy, runE_none ll_Copy, in_on, runE_none ll_on, in_asked, runE_none ll_asked, in_into, runE_none ll_into, in_through, runE_none ll_through, in_ends, runE_none ll_ends, in_New, runE_none ll_New, in_same, runE_none ll_same]
    rfl
  obtain ⟨o, H', h, rfl, rfl⟩ := key
  exact h
theorem done_ic {H : Heap} {a : Nat} {w : Wk} (hw : Wat H a w) : (cbL tab).ic 39 [.ptr a 0] H = some (.ret (.tup [.agg w.endA.cells, .bool w.fin.isSome]), H ++ [.cells w.endA.cells]) := by
  obtain ⟨s, tk, h1, h2, h3⟩ := hw
  simp only [Wk.cells, Wd.cells, List.cons_append, List.nil_append] at h3
  have hlt := (List.getElem?_eq_some_iff.1 h3).1
  have g0 : ∀ (L : List AObj), (H ++ L)[H.length]? = L[0]? := fun L => by rw [List.getElem?_append_right (by omega)]; congr 1; omega
  have s0 : ∀ (L : List AObj) (o : AObj), (H ++ L).set H.length o = H ++ L.set 0 o := fun L o => by rw [List.set_append_right _ _ (by omega)]; congr 2; omega
  have a1 : ∀ (L : List AObj), (H ++ L)[a]? = _ := fun L => (List.getElem?_append_left hlt).trans h3
  have n0 := fun L => none_ic (a1 L)
  have key : ∃ o H', (cbL tab).ic 39 [.ptr a 0] H = some (o, H') ∧ o = .ret (.tup [.agg w.endA.cells, .bool w.fin.isSome]) ∧ H' = H ++ [.cells w.endA.cells] := by
    refine ic_wp (fi := c39) rfl rfl (by simp [c39]) (by decide) ?_
    unfold c39 Wd.cells
    have fv : ∀ o o', floatV [.ptr a o] [.ptr H.length o'] = true := fun o o' => by rw [floatV_p (by rw [offP_ptr (by omega)]; rfl)]; exact floatV_nil
    simp (disch := omega) only [wk, avalE, aactE, evPE, boundE, asNat, bv_seql cellsEq_ii, bv_sneqd cellsEq_ii, readC, allOne, fillL, resE, tupled, ↓reduceIte, Nat.reduceEqDiff, Int.reduceEq, Int.reduceLT, Int.reduceLE, Nat.reduceAdd, Nat.reduceMul, Nat.reduceLT, Nat.reduceLeDiff, reduceCtorEq, g0, s0, a1, h3, n0, fv, in_none, runE_none ll_none, in_Asks, runE_none ll_Asks, in_Give, runE_none ll_Give, in_Miss, runE_none ll_Miss, in_Done, runE_none ll_Done, in_Copy, runE_none ll_Copy, in_on, runE_none ll_on, in_asked, runE_none ll_asked, in_into, runE_none ll_into, in_through, runE_none ll_through, in_ends, runE_none ll_ends, in_New, runE_none ll_New, in_same, runE_none ll_same]
  obtain ⟨o, H', h, rfl, rfl⟩ := key
  exact h
theorem into_ic {H : Heap} {a : Nat} {w : Wk} (hw : Wat H a w) (hf : w.fin = none) (f : Fnd) (hl : w.parts.length ≤ 10000) :
    ∃ H', (cbL tab).ic 70 [.ptr a 0, .agg f.cells] H = some (.ret (.tup []), H') ∧ Wat H' a (onM { w with at_ := f.inode }) ∧ Keep a H H' := by
  obtain ⟨at_, l, links, fol, fin⟩ := w
  obtain ⟨fi, fk, t⟩ := f
  dsimp only at hf hl
  subst hf
  obtain ⟨s, tk, h1, h2, h3⟩ := hw
  dsimp only at h1 h2 h3
  simp only [Wk.cells, Wk.endA, Option.getD_none, zeroW, Wd.cells, Option.isSome_none, List.cons_append, List.nil_append] at h3
  have hlt := (List.getElem?_eq_some_iff.1 h3).1
  have key : ∃ o H', (cbL tab).ic 70 [.ptr a 0, .agg (Fnd.cells ⟨fi, fk, t⟩)] H = some (o, H') ∧ o = .ret (.tup []) ∧ Wat H' a (onM ⟨fi, l, links, fol, none⟩) ∧ Keep a H H' := by
    refine ic_wp (fi := c70) rfl rfl (by simp [c70]) (by decide) ?_
    unfold c70 Fnd.cells
    have g0 : ∀ (L : List AObj), (H ++ L)[H.length]? = L[0]? := fun L => by rw [List.getElem?_append_right (by omega)]; congr 1; omega
    have a1 : ∀ (L : List AObj), (H ++ L)[a]? = _ := fun L => (List.getElem?_append_left hlt).trans h3
    have a2 : ∀ (L : List AObj) (o : AObj), ((H ++ L).set a o)[a]? = some o := fun L o => set_eq (a1 L)
    obtain ⟨H', q1, q2, q3⟩ := on_ic (H := (H ++ [AObj.cells [.int .i64 fi, .int .i64 fk, .str (bs t)]]).set a (.cells [.int .i64 0, .int .i64 0, .str (bs []), .int .i64 0, .int .i64 0, .bool false, .int .i64 fi, .sl s l.length (encs strA l) tk, .int .i64 links, .bool fol, .bool true])) (a := a) (w := ⟨fi, l, links, fol, none⟩) ⟨s, tk, h1, h2, a2 _ _⟩ rfl hl
    simp (disch := omega) only [wk, avalE, aactE, evPE, boundE, asNat, bv_seql cellsEq_ii, bv_sneqd cellsEq_ii, readC, allOne, fillL, resE, tupled, ↓reduceIte, Nat.reduceEqDiff, Int.reduceEq, Int.reduceLT, Int.reduceLE, Nat.reduceAdd, Nat.reduceMul, Nat.reduceLT, Nat.reduceLeDiff, reduceCtorEq, g0, a1, q1, in_none, runE_none ll_none, in_Asks, runE_none ll_Asks, in_Give, runE_none ll_Give, in_Miss, runE_none ll_Miss, in_Done, runE_none ll_Done, in_Copy, runE_none ll_Copy, in_on, runE_none ll_on, in_asked, runE_none ll_asked, in_into, runE_none ll_into, in_through, runE_none ll_through, in_ends, runE_none ll_ends, in_New, runE_none ll_New, in_same, runE_none ll_same]
    exact ⟨q2, ((Keep.app a H _).trans (Keep.set a _ _)).trans q3⟩
  obtain ⟨o, H', k1, rfl, k2, k3⟩ := key
  exact ⟨H', k1, k2, k3⟩
def goesL : List (AV × AV) := [(.int .i64 2, .fn 70 []), (.int .i64 3, .fn 71 [])]
theorem goes_px (H : Heap) : pcx (cbL tab) 69 [] H = some (.fmap goesL) := pcx_N rfl (cbL_pc.2 ⟨6, by kernel_rfl⟩)
theorem goes_find (k : Int) : findA 0 (.int .i64 k) goesL 0 = if k = 2 then some (some (0, .fn 70 [])) else if k = 3 then some (some (1, .fn 71 [])) else some none := by
  have ke : ∀ a b : Int, cellEq 0 (.int .i64 a) (.int .i64 b) = some (a == b) := fun a b => rfl
  by_cases h2 : k = 2
  · subst h2; rfl
  · have e2 : (k == 2) = false := by simpa using h2
    by_cases h3 : k = 3
    · subst h3; rfl
    · have e3 : (k == 3) = false := by simpa using h3
      simp only [goesL, findA, ke, e2, e3, h2, h3, if_true, if_false]
theorem cellEq_self (k : Int) : cellEq 0 (.int .i64 k) (.int .i64 k) = some true := by
  show some (k == k) = _
  rw [beq_self_eq_true]
theorem kdd : ByteArray.mk (Array.mk [UInt8.ofNat 46, UInt8.ofNat 46]) = bs [46, 46] := rfl
theorem give_ic {H : Heap} {a : Nat} {w : Wk} (hw : Wat H a w) (hf : w.fin = none) (f : Fnd) (ht : f.kind = 3 → f.target.length ≤ 4000) (hl : w.parts.length ≤ 5000) (hk : 0 ≤ w.links ∧ w.links ≤ 100) (hne : w.parts ≠ []) :
    ∃ H', (cbL tab).ic 37 [.ptr a 0, .agg f.cells] H = some (.ret (.int .i64 0), H') ∧ Wat H' a (giveM w f) ∧ Keep a H H' := by
  have as1 := fun L => asked_ic (hw.app L)
  rw [hf] at as1
  simp only [Option.isSome_none, Bool.false_eq_true, if_false] at as1
  obtain ⟨at_, l, links, fol, fin⟩ := w
  obtain ⟨fi, fk, t⟩ := f
  dsimp only at hf hl hk ht hne
  subst hf
  obtain ⟨p, r, rfl⟩ : ∃ p r, l = p :: r := by
    cases l with
    | nil => exact absurd rfl hne
    | cons p r => exact ⟨p, r, rfl⟩
  obtain ⟨s, tk, h1, h2, h3⟩ := hw
  dsimp only at h1 h2 h3
  obtain rfl := h1 (by simp)
  obtain rfl : tk = .ro := by rcases h2 with h | h; exact h.1; cases h.2
  have e1 : encs strA (p :: r) = .str (bs p) :: encs strA r := rfl
  simp only [Wk.cells, Wk.endA, Option.getD_none, zeroW, Wd.cells, Option.isSome_none, List.cons_append, List.nil_append, List.length_cons] at h3
  simp only [List.length_cons] at hl
  have hlt := (List.getElem?_eq_some_iff.1 h3).1
  have key : ∃ o H', (cbL tab).ic 37 [.ptr a 0, .agg (Fnd.cells ⟨fi, fk, t⟩)] H = some (o, H') ∧ o = .ret (.int .i64 0) ∧ Wat H' a (giveM ⟨at_, p :: r, links, fol, none⟩ ⟨fi, fk, t⟩) ∧ Keep a H H' := by
    refine ic_wp (fi := c37) rfl rfl (by simp [c37]) (by decide) ?_
    unfold c37 Fnd.cells
    have g0 : ∀ (L : List AObj), (H ++ L)[H.length]? = L[0]? := fun L => by rw [List.getElem?_append_right (by omega)]; congr 1; omega
    have a1 : ∀ (L : List AObj), (H ++ L)[a]? = _ := fun L => (List.getElem?_append_left hlt).trans h3
    have a2 : ∀ (L : List AObj) (o : AObj), ((H ++ L).set a o)[a]? = some o := fun L o => set_eq (a1 L)
    have a3 : ∀ (L : List AObj) (o : AObj), ((H ++ L).set a o)[H.length]? = L[0]? := fun L o => by rw [set_ne (by omega)]; exact g0 L
    simp (disch := omega) only [wk, avalE, aactE, evPE, boundE, asNat, bv_seql cellsEq_ii, bv_sneqd cellsEq_ii, readC, allOne, fillL, resE, tupled, ↓reduceIte, Nat.reduceEqDiff, Int.reduceEq, Int.reduceLT, Int.reduceLE, Nat.reduceAdd, Nat.reduceMul, Nat.reduceLT, Nat.reduceLeDiff, reduceCtorEq, g0, a1, a2, a3, as1, e1, Int.toNat_zero, i1, lenS, Nat.le_refl, Nat.add_sub_cancel, in_none, runE_none ll_none, in_Asks, runE_none ll_Asks, in_Give, runE_none ll_Give, in_Miss, runE_none ll_Miss, in_Done, runE_none ll_Done, in_Copy, runE_none ll_Copy, in_on, runE_none ll_on, in_asked, runE_none ll_asked, in_into, runE_none ll_into, in_through, runE_none ll_through, in_ends, runE_none ll_ends, in_New, runE_none ll_New, in_same, runE_none ll_same]
    generalize hG1 : (H ++ [AObj.cells [.int .i64 fi, .int .i64 fk, .str (bs t)]]).set a (.cells [.int .i64 0, .int .i64 0, .str (bs []), .int .i64 0, .int .i64 0, .bool false, .int .i64 at_, .sl 1 r.length (encs strA r) .ro, .int .i64 links, .bool fol, .bool true]) = G1
    have b0 : G1[a]? = some (.cells [.int .i64 0, .int .i64 0, .str (bs []), .int .i64 0, .int .i64 0, .bool false, .int .i64 at_, .sl 1 r.length (encs strA r) .ro, .int .i64 links, .bool fol, .bool true]) := by rw [← hG1]; exact a2 _ _
    have b1 : G1[H.length]? = some (.cells [.int .i64 fi, .int .i64 fk, .str (bs t)]) := by rw [← hG1]; exact a3 _ _
    have b2 : Keep a H G1 := by rw [← hG1]; exact (Keep.app a H _).trans (Keep.set a _ _)
    have b3 : G1[G1.length]? = none := List.getElem?_eq_none (Nat.le_refl _)
    have c0 : ∀ L, (G1 ++ L)[a]? = _ := fun L => (List.getElem?_append_left (List.getElem?_eq_some_iff.1 b0).1).trans b0
    have c1 : ∀ L, (G1 ++ L)[H.length]? = _ := fun L => (List.getElem?_append_left (List.getElem?_eq_some_iff.1 b1).1).trans b1
    have c2 : ∀ L : List AObj, (G1 ++ L)[G1.length]? = L[0]? := fun L => by rw [List.getElem?_append_right (by omega), Nat.sub_self]
    have kG : Keep a H (G1 ++ [.map goesL]) := b2.trans (Keep.app a _ _)
    clear hG1 a1 a2 a3 g0
    have hW : Wat (G1 ++ [.map goesL]) a ⟨at_, r, links, fol, none⟩ := ⟨1, .ro, fun _ => rfl, .inl ⟨rfl, rfl⟩, c0 _⟩
    obtain ⟨Hi, qi1, qi2, qi3⟩ := into_ic hW rfl ⟨fi, fk, t⟩ (by dsimp only; omega)
    have th := fun h : fk = 3 => through_ic hW rfl ⟨fi, fk, t⟩ (ht h) (by dsimp only; omega) hk
    obtain ⟨He, qe1, qe2, qe3⟩ := ends_ic (c0 [.map goesL]) ⟨0, at_, p, fi, fk⟩
    obtain ⟨Hd, qd1, qd2, qd3⟩ := ends_ic (c0 [.map goesL]) ⟨271, 0, [], 0, 0⟩
    have we : Wat He a (endM ⟨at_, p :: r, links, fol, none⟩ ⟨0, at_, p, fi, fk⟩) := ⟨0, .z, fun h => absurd rfl h, .inr ⟨rfl, rfl⟩, qe2⟩
    have wd : Wat Hd a (endM ⟨at_, p :: r, links, fol, none⟩ ⟨271, 0, [], 0, 0⟩) := ⟨0, .z, fun h => absurd rfl h, .inr ⟨rfl, rfl⟩, qd2⟩
    simp only [Fnd.cells] at qi1
    simp only [Wd.cells] at qe1 qd1
    have gf := goes_find fk
    have cs := cellEq_self fk
    unfold giveM
    dsimp only
    by_cases hp : p = [46, 46]
    · have hx : (p == [46, 46]) = true := by rw [hp]; rfl
      rw [if_pos hp]
      by_cases f2 : fk = 2
      · rw [if_pos f2] at gf
        simp (disch := omega) only [wk, avalE, aactE, evPE, boundE, asNat, bv_seql cellsEq_ii, bv_sneqd cellsEq_ii, readC, allOne, fillL, resE, tupled, ↓reduceIte, Nat.reduceEqDiff, Int.reduceEq, Int.reduceLT, Int.reduceLE, Nat.reduceAdd, Nat.reduceMul, Nat.reduceLT, Nat.reduceLeDiff, reduceCtorEq, goes_px, b0, b1, b3, c0, c1, c2, gf, cs, kdd, bv_streq, bs_toList, hx, qi1, in_none, runE_none ll_none, in_Asks, runE_none ll_Asks, in_Give, runE_none ll_Give, in_Miss, runE_none ll_Miss, in_Done, runE_none ll_Done, in_Copy, runE_none ll_Copy, in_on, runE_none ll_on, in_asked, runE_none ll_asked, in_into, runE_none ll_into, in_through, runE_none ll_through, in_ends, runE_none ll_ends, in_New, runE_none ll_New, in_same, runE_none ll_same]
        exact ⟨qi2, kG.trans qi3⟩
      · rw [if_neg f2] at gf
        by_cases f3 : fk = 3
        · rw [if_pos f3] at gf
          simp (disch := omega) only [wk, avalE, aactE, evPE, boundE, asNat, bv_seql cellsEq_ii, bv_sneqd cellsEq_ii, readC, allOne, fillL, resE, tupled, ↓reduceIte, Nat.reduceEqDiff, Int.reduceEq, Int.reduceLT, Int.reduceLE, Nat.reduceAdd, Nat.reduceMul, Nat.reduceLT, Nat.reduceLeDiff, reduceCtorEq, goes_px, b0, b1, b3, c0, c1, c2, gf, cs, kdd, bv_streq, bs_toList, hx, qi1, in_none, runE_none ll_none, in_Asks, runE_none ll_Asks, in_Give, runE_none ll_Give, in_Miss, runE_none ll_Miss, in_Done, runE_none ll_Done, in_Copy, runE_none ll_Copy, in_on, runE_none ll_on, in_asked, runE_none ll_asked, in_into, runE_none ll_into, in_through, runE_none ll_through, in_ends, runE_none ll_ends, in_New, runE_none ll_New, in_same, runE_none ll_same]
          exact ⟨qi2, kG.trans qi3⟩
        · rw [if_neg f3] at gf
          simp (disch := omega) only [wk, avalE, aactE, evPE, boundE, asNat, bv_seql cellsEq_ii, bv_sneqd cellsEq_ii, readC, allOne, fillL, resE, tupled, ↓reduceIte, Nat.reduceEqDiff, Int.reduceEq, Int.reduceLT, Int.reduceLE, Nat.reduceAdd, Nat.reduceMul, Nat.reduceLT, Nat.reduceLeDiff, reduceCtorEq, goes_px, b0, b1, b3, c0, c1, c2, gf, cs, kdd, bv_streq, bs_toList, hx, qi1, in_none, runE_none ll_none, in_Asks, runE_none ll_Asks, in_Give, runE_none ll_Give, in_Miss, runE_none ll_Miss, in_Done, runE_none ll_Done, in_Copy, runE_none ll_Copy, in_on, runE_none ll_on, in_asked, runE_none ll_asked, in_into, runE_none ll_into, in_through, runE_none ll_through, in_ends, runE_none ll_ends, in_New, runE_none ll_New, in_same, runE_none ll_same]
          exact ⟨qi2, kG.trans qi3⟩
    · have hx : (p == [46, 46]) = false := by simpa using hp
      rw [if_neg hp]
      by_cases hr : r = []
      · rw [if_pos hr]
        have n1 : ¬ 0 < (r.length : Int) := by rw [hr]; simp
        by_cases f2 : fk = 2
        · rw [if_pos f2] at gf
          rw [if_neg (by rintro ⟨h, _⟩; omega)]
          have f3 : ¬ fk = 3 := by omega
          simp (disch := omega) only [wk, avalE, aactE, evPE, boundE, asNat, bv_seql cellsEq_ii, bv_sneqd cellsEq_ii, readC, allOne, fillL, resE, tupled, ↓reduceIte, Nat.reduceEqDiff, Int.reduceEq, Int.reduceLT, Int.reduceLE, Nat.reduceAdd, Nat.reduceMul, Nat.reduceLT, Nat.reduceLeDiff, reduceCtorEq, goes_px, b0, b1, b3, c0, c1, c2, gf, cs, kdd, bv_streq, bs_toList, hx, n1, qe1, in_none, runE_none ll_none, in_Asks, runE_none ll_Asks, in_Give, runE_none ll_Give, in_Miss, runE_none ll_Miss, in_Done, runE_none ll_Done, in_Copy, runE_none ll_Copy, in_on, runE_none ll_on, in_asked, runE_none ll_asked, in_into, runE_none ll_into, in_through, runE_none ll_through, in_ends, runE_none ll_ends, in_New, runE_none ll_New, in_same, runE_none ll_same]
          exact ⟨we, kG.trans qe3⟩
        · rw [if_neg f2] at gf
          by_cases f3 : fk = 3
          · rw [if_pos f3] at gf
            obtain ⟨Ht, qt1, qt2, qt3⟩ := th f3
            simp only [Fnd.cells] at qt1
            have hf3 : fk = 3 := f3
            cases fol with
            | true =>
              rw [if_pos ⟨f3, rfl⟩]
              simp (disch := omega) only [wk, avalE, aactE, evPE, boundE, asNat, bv_seql cellsEq_ii, bv_sneqd cellsEq_ii, readC, allOne, fillL, resE, tupled, ↓reduceIte, Nat.reduceEqDiff, Int.reduceEq, Int.reduceLT, Int.reduceLE, Nat.reduceAdd, Nat.reduceMul, Nat.reduceLT, Nat.reduceLeDiff, reduceCtorEq, goes_px, b0, b1, b3, c0, c1, c2, gf, cs, kdd, bv_streq, bs_toList, hx, n1, qt1, in_none, runE_none ll_none, in_Asks, runE_none ll_Asks, in_Give, runE_none ll_Give, in_Miss, runE_none ll_Miss, in_Done, runE_none ll_Done, in_Copy, runE_none ll_Copy, in_on, runE_none ll_on, in_asked, runE_none ll_asked, in_into, runE_none ll_into, in_through, runE_none ll_through, in_ends, runE_none ll_ends, in_New, runE_none ll_New, in_same, runE_none ll_same]
              exact ⟨qt2, kG.trans qt3⟩
            | false =>
              rw [if_neg (by rintro ⟨_, h⟩; cases h)]
              simp (disch := omega) only [wk, avalE, aactE, evPE, boundE, asNat, bv_seql cellsEq_ii, bv_sneqd cellsEq_ii, readC, allOne, fillL, resE, tupled, ↓reduceIte, Nat.reduceEqDiff, Int.reduceEq, Int.reduceLT, Int.reduceLE, Nat.reduceAdd, Nat.reduceMul, Nat.reduceLT, Nat.reduceLeDiff, reduceCtorEq, goes_px, b0, b1, b3, c0, c1, c2, gf, cs, kdd, bv_streq, bs_toList, hx, n1, qe1, Bool.false_eq_true, in_none, runE_none ll_none, in_Asks, runE_none ll_Asks, in_Give, runE_none ll_Give, in_Miss, runE_none ll_Miss, in_Done, runE_none ll_Done, in_Copy, runE_none ll_Copy, in_on, runE_none ll_on, in_asked, runE_none ll_asked, in_into, runE_none ll_into, in_through, runE_none ll_through, in_ends, runE_none ll_ends, in_New, runE_none ll_New, in_same, runE_none ll_same]
              exact ⟨we, kG.trans qe3⟩
          · rw [if_neg f3] at gf
            rw [if_neg (by rintro ⟨h, _⟩; omega)]
            simp (disch := omega) only [wk, avalE, aactE, evPE, boundE, asNat, bv_seql cellsEq_ii, bv_sneqd cellsEq_ii, readC, allOne, fillL, resE, tupled, ↓reduceIte, Nat.reduceEqDiff, Int.reduceEq, Int.reduceLT, Int.reduceLE, Nat.reduceAdd, Nat.reduceMul, Nat.reduceLT, Nat.reduceLeDiff, reduceCtorEq, goes_px, b0, b1, b3, c0, c1, c2, gf, cs, kdd, bv_streq, bs_toList, hx, n1, qe1, in_none, runE_none ll_none, in_Asks, runE_none ll_Asks, in_Give, runE_none ll_Give, in_Miss, runE_none ll_Miss, in_Done, runE_none ll_Done, in_Copy, runE_none ll_Copy, in_on, runE_none ll_on, in_asked, runE_none ll_asked, in_into, runE_none ll_into, in_through, runE_none ll_through, in_ends, runE_none ll_ends, in_New, runE_none ll_New, in_same, runE_none ll_same]
            exact ⟨we, kG.trans qe3⟩
      · rw [if_neg hr]
        have n0 : r.length ≠ 0 := fun e => hr (List.eq_nil_of_length_eq_zero e)
        have n1 : 0 < (r.length : Int) := by omega
        by_cases f2 : fk = 2
        · rw [if_pos f2] at gf
          rw [if_pos f2]
          simp (disch := omega) only [wk, avalE, aactE, evPE, boundE, asNat, bv_seql cellsEq_ii, bv_sneqd cellsEq_ii, readC, allOne, fillL, resE, tupled, ↓reduceIte, Nat.reduceEqDiff, Int.reduceEq, Int.reduceLT, Int.reduceLE, Nat.reduceAdd, Nat.reduceMul, Nat.reduceLT, Nat.reduceLeDiff, reduceCtorEq, goes_px, b0, b1, b3, c0, c1, c2, gf, cs, kdd, bv_streq, bs_toList, hx, n1, qi1, in_none, runE_none ll_none, in_Asks, runE_none ll_Asks, in_Give, runE_none ll_Give, in_Miss, runE_none ll_Miss, in_Done, runE_none ll_Done, in_Copy, runE_none ll_Copy, in_on, runE_none ll_on, in_asked, runE_none ll_asked, in_into, runE_none ll_into, in_through, runE_none ll_through, in_ends, runE_none ll_ends, in_New, runE_none ll_New, in_same, runE_none ll_same]
          exact ⟨qi2, kG.trans qi3⟩
        · rw [if_neg f2] at gf
          by_cases f3 : fk = 3
          · rw [if_pos f3] at gf
            obtain ⟨Ht, qt1, qt2, qt3⟩ := th f3
            simp only [Fnd.cells] at qt1
            rw [if_neg f2, if_pos f3]
            simp (disch := omega) only [wk, avalE, aactE, evPE, boundE, asNat, bv_seql cellsEq_ii, bv_sneqd cellsEq_ii, readC, allOne, fillL, resE, tupled, ↓reduceIte, Nat.reduceEqDiff, Int.reduceEq, Int.reduceLT, Int.reduceLE, Nat.reduceAdd, Nat.reduceMul, Nat.reduceLT, Nat.reduceLeDiff, reduceCtorEq, goes_px, b0, b1, b3, c0, c1, c2, gf, cs, kdd, bv_streq, bs_toList, hx, n1, qt1, in_none, runE_none ll_none, in_Asks, runE_none ll_Asks, in_Give, runE_none ll_Give, in_Miss, runE_none ll_Miss, in_Done, runE_none ll_Done, in_Copy, runE_none ll_Copy, in_on, runE_none ll_on, in_asked, runE_none ll_asked, in_into, runE_none ll_into, in_through, runE_none ll_through, in_ends, runE_none ll_ends, in_New, runE_none ll_New, in_same, runE_none ll_same]
            exact ⟨qt2, kG.trans qt3⟩
          · rw [if_neg f3] at gf
            rw [if_neg f2, if_neg f3]
            simp (disch := omega) only [wk, avalE, aactE, evPE, boundE, asNat, bv_seql cellsEq_ii, bv_sneqd cellsEq_ii, readC, allOne, fillL, resE, tupled, ↓reduceIte, Nat.reduceEqDiff, Int.reduceEq, Int.reduceLT, Int.reduceLE, Nat.reduceAdd, Nat.reduceMul, Nat.reduceLT, Nat.reduceLeDiff, reduceCtorEq, goes_px, b0, b1, b3, c0, c1, c2, gf, cs, kdd, bv_streq, bs_toList, hx, n1, kemp, qd1, in_none, runE_none ll_none, in_Asks, runE_none ll_Asks, in_Give, runE_none ll_Give, in_Miss, runE_none ll_Miss, in_Done, runE_none ll_Done, in_Copy, runE_none ll_Copy, in_on, runE_none ll_on, in_asked, runE_none ll_asked, in_into, runE_none ll_into, in_through, runE_none ll_through, in_ends, runE_none ll_ends, in_New, runE_none ll_New, in_same, runE_none ll_same]
            exact ⟨wd, kG.trans qd3⟩
  obtain ⟨o, H', k1, rfl, k2, k3⟩ := key
  exact ⟨H', k1, k2, k3⟩
end Go.Proofs.YtmogflndepihnaaDoor
