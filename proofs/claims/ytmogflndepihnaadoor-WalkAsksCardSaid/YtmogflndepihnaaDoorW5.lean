/- THE STEPS OF A WALKER IN MEMORY: ends, on. No condition but those stated. -/
import Derived.Test.YtmogflndepihnaaDoorW1
import Derived.Test.YtmogflndepihnaaDoorKE
import Derived.Test.YtmogflndepihnaaDoorG1
set_option linter.unusedSimpArgs false
set_option linter.unusedVariables false
set_option linter.unusedSectionVars false
namespace Go.Proofs.YtmogflndepihnaaDoor
open Go Go.Am Go.Nam Go.Wlk Go.Rec
set_option maxHeartbeats 4000000
set_option maxRecDepth 10000
theorem ends_ic {H : Heap} {a : Nat} {c0 c1 c2 c3 c4 c5 c6 c7 c8 c9 c10 : AV} (h : H[a]? = some (.cells [c0, c1, c2, c3, c4, c5, c6, c7, c8, c9, c10])) (x : Wd) :
    ∃ H', (cbL tab).ic 72 [.ptr a 0, .agg x.cells] H = some (.ret (.tup []), H') ∧ H'[a]? = some (.cells (x.cells ++ [.bool true, c6, .sl 0 0 [] .z, c8, c9, c10])) ∧ Keep a H H' := by
  have key : ∃ o H', (cbL tab).ic 72 [.ptr a 0, .agg x.cells] H = some (o, H') ∧ o = .ret (.tup []) ∧ H'[a]? = some (.cells (x.cells ++ [.bool true, c6, .sl 0 0 [] .z, c8, c9, c10])) ∧ Keep a H H' := by
    refine ic_wp (fi := c72) rfl rfl (by simp [c72]) (by decide) ?_
    unfold c72 Wd.cells
    have hlt := (List.getElem?_eq_some_iff.1 h).1
    have g0 : ∀ (L : List AObj), (H ++ L)[H.length]? = L[0]? := fun L => by rw [List.getElem?_append_right (by omega)]; congr 1; omega
    have h1 : ∀ (L : List AObj), (H ++ L)[a]? = some (.cells [c0, c1, c2, c3, c4, c5, c6, c7, c8, c9, c10]) := fun L => by rw [List.getElem?_append_left hlt]; exact h
    have h2 : ∀ (L : List AObj) (o : AObj), ((H ++ L).set a o)[a]? = some o := fun L o => set_eq (h1 L)
    simp (disch := omega) only [wk, avalE, aactE, evPE, boundE, asNat, bv_seql cellsEq_ii, bv_sneqd cellsEq_ii, readC, allOne, fillL, resE, tupled, ↓reduceIte, Nat.reduceEqDiff, Int.reduceEq, Int.reduceLT, Int.reduceLE, Nat.reduceAdd, Nat.reduceMul, Nat.reduceLT, Nat.reduceLeDiff, reduceCtorEq, g0, h1, h2]
    refine ⟨set_eq (h2 _ _), ?_⟩
    exact (Keep.app a H _).trans ((Keep.set a _ _).trans (Keep.set a _ _))
  obtain ⟨o, H', h1, rfl, h2, h3⟩ := key
  exact ⟨H', h1, h2, h3⟩
def onBlk : ACode := (.block 0 (.seq (.region [⟨(.some 3), (.mv (.t 0)), .none⟩, ⟨(.some 4), (.nilck (.t 3)), .none⟩, ⟨(.some 5), (.fld 7 (.t 4)), .none⟩, ⟨(.some 6), (.load 1 false (.t 5)), .none⟩, ⟨(.some 7), (.len 0 (.t 6)), .none⟩, ⟨(.some 8), (.bin .eql .num (.t 7) (.c (.int .i64 0))), .none⟩, ⟨(.some 2), (.mv (.t 8)), .none⟩]) (.cond (.t 2) (.region [⟨(.some 9), (.mv (.t 0)), .none⟩, ⟨(.some 10), (.mv (.t 0)), .none⟩, ⟨(.some 11), (.nilck (.t 10)), .none⟩, ⟨(.some 12), (.fld 6 (.t 11)), .none⟩, ⟨(.some 13), (.load 1 false (.t 12)), .none⟩, ⟨(.some 14), (.build [(.int .i64 0), (.int .i64 0), (.str (ByteArray.mk (Array.mk []))), (.int .i64 0), (.int .i64 0)] [(3, (1, (.t 13))), (4, (1, (.c (.int .i64 2))))]), .none⟩, ⟨(.some 15), (.callf 72 [(.t 9), (.t 14)]), .none⟩]) (.seq (.region [⟨(.some 17), (.mv (.t 0)), .none⟩, ⟨(.some 18), (.nilck (.t 17)), .none⟩, ⟨(.some 19), (.fld 7 (.t 18)), .none⟩, ⟨(.some 20), (.load 1 false (.t 19)), .none⟩, ⟨(.some 21), (.ixa 1 (.t 20) (.c (.int .i64 0))), .none⟩, ⟨(.some 22), (.load 1 false (.t 21)), .none⟩, ⟨(.some 23), (.bin .eql .str (.t 22) (.c (.str (ByteArray.mk (Array.mk [(UInt8.ofNat 46)]))))), .none⟩, ⟨(.some 16), (.mv (.t 23)), .none⟩]) (.cond (.t 16) (.seq (.region [⟨(.some 24), (.mv (.t 0)), .none⟩, ⟨(.some 25), (.mv (.t 0)), .none⟩, ⟨(.some 26), (.nilck (.t 25)), .none⟩, ⟨(.some 27), (.fld 7 (.t 26)), .none⟩, ⟨(.some 28), (.load 1 false (.t 27)), .none⟩, ⟨(.some 29), (.slice 1 (.t 28) (.some (.c (.int .i64 1))) .none), .none⟩, ⟨(.some 30), (.nilck (.t 24)), .none⟩, ⟨(.some 31), (.fld 7 (.t 30)), .none⟩, ⟨.none, (.store 1 (.t 31) (.t 29)), .none⟩]) (.goto 0)) .skip)))))
def onW : ACode := .seq (.label 0) onBlk
theorem i1 : Int.toNat 1 = 1 := rfl
theorem kdot : ByteArray.mk (Array.mk [UInt8.ofNat 46]) = bs [46] := rfl
theorem kemp : ByteArray.mk (Array.mk []) = bs [] := rfl
theorem on_loop {a : Nat} {at_ links : Int} {fol : Bool} {H0 : Heap} : ∀ (l : List (List UInt8)) (s : Nat) (tk : Tk) (E : Env) (H : Heap), l.length ≤ 10000 → (l ≠ [] → s = 1) → (tk = .ro ∨ (tk = .z ∧ l = [])) → E 0 = .ptr a 0 →
    H[a]? = some (.cells ((⟨at_, l, links, fol, none⟩ : Wk).cells (.sl s l.length (encs strA l) tk))) → Keep a H0 H →
    Ret (cbL tab) none 32 (Am.Ends tab [] (fun o H' => o = .ret (.tup []) ∧ Wat H' a (onM ⟨at_, l, links, fol, none⟩) ∧ Keep a H0 H')) [.code onBlk, .scp onW] .normal E [] H
  | [], s, tk, E, H, hl, hs, ht, E0, h, hk => by
    unfold onBlk
    simp only [Wk.cells, Wk.endA, Option.getD_none, zeroW, Wd.cells, Option.isSome_none, List.cons_append, List.nil_append, List.length_nil, encs_nil] at h
    obtain ⟨H', q1, q2, q3⟩ := ends_ic h ⟨0, 0, [], at_, 2⟩
    simp only [Wd.cells] at q1
    simp (disch := omega) only [wk, avalE, aactE, evPE, boundE, asNat, bv_seql cellsEq_ii, bv_sneqd cellsEq_ii, readC, allOne, fillL, resE, tupled, ↓reduceIte, Nat.reduceEqDiff, Int.reduceEq, Int.reduceLT, Int.reduceLE, Nat.reduceAdd, Nat.reduceMul, Nat.reduceLT, Nat.reduceLeDiff, reduceCtorEq, E0, h, q1, kemp, in_none, runE_none ll_none, in_Asks, runE_none ll_Asks, in_Give, runE_none ll_Give, in_Miss, runE_none ll_Miss, in_Done, runE_none ll_Done, in_Copy, runE_none ll_Copy, in_on, runE_none ll_on, in_asked, runE_none ll_asked, in_into, runE_none ll_into, in_through, runE_none ll_through, in_ends, runE_none ll_ends, in_New, runE_none ll_New, in_same, runE_none ll_same]
    exact ⟨⟨0, .z, fun h => absurd rfl h, .inr ⟨rfl, rfl⟩, q2⟩, hk.trans q3⟩
  | x :: r, s, tk, E, H, hl, hs, ht, E0, h, hk => by
    obtain rfl := hs (by simp)
    obtain rfl : tk = .ro := by rcases ht with h | h; exact h; cases h.2
    have h' := h
    simp only [Wk.cells, Wk.endA, Option.getD_none, zeroW, Wd.cells, Option.isSome_none, List.cons_append, List.nil_append, List.length_cons] at h
    have e1 : encs strA (x :: r) = .str (bs x) :: encs strA r := rfl
    simp only [List.length_cons] at hl
    unfold onBlk
    cases hd : dot x with
    | false =>
      have hx : (x == [46]) = false := hd
      have ho : onM ⟨at_, x :: r, links, fol, none⟩ = ⟨at_, x :: r, links, fol, none⟩ := by
        unfold onM
        simp only [List.dropWhile_cons, hd, Bool.false_eq_true, if_false]
      rw [ho]
      simp (disch := omega) only [wk, avalE, aactE, evPE, boundE, asNat, bv_seql cellsEq_ii, bv_sneqd cellsEq_ii, readC, allOne, fillL, resE, tupled, ↓reduceIte, Nat.reduceEqDiff, Int.reduceEq, Int.reduceLT, Int.reduceLE, Nat.reduceAdd, Nat.reduceMul, Nat.reduceLT, Nat.reduceLeDiff, reduceCtorEq, E0, h, e1, kdot, bv_streq, bs_toList, hx, Int.toNat_zero, i1, in_none, runE_none ll_none, in_Asks, runE_none ll_Asks, in_Give, runE_none ll_Give, in_Miss, runE_none ll_Miss, in_Done, runE_none ll_Done, in_Copy, runE_none ll_Copy, in_on, runE_none ll_on, in_asked, runE_none ll_asked, in_into, runE_none ll_into, in_through, runE_none ll_through, in_ends, runE_none ll_ends, in_New, runE_none ll_New, in_same, runE_none ll_same]
      exact ⟨⟨1, .ro, fun _ => rfl, .inl ⟨rfl, rfl⟩, h'⟩, hk⟩
    | true =>
      have hx : (x == [46]) = true := hd
      have ho : onM ⟨at_, x :: r, links, fol, none⟩ = onM ⟨at_, r, links, fol, none⟩ := by
        unfold onM
        simp only [List.dropWhile_cons, hd, if_true]
        rfl
      rw [ho]
      simp (disch := omega) only [wk, avalE, aactE, evPE, boundE, asNat, bv_seql cellsEq_ii, bv_sneqd cellsEq_ii, readC, allOne, fillL, resE, tupled, ↓reduceIte, Nat.reduceEqDiff, Int.reduceEq, Int.reduceLT, Int.reduceLE, Nat.reduceAdd, Nat.reduceMul, Nat.reduceLT, Nat.reduceLeDiff, reduceCtorEq, E0, h, e1, kdot, bv_streq, bs_toList, hx, Int.toNat_zero, i1, lenS, Nat.le_refl, Nat.add_sub_cancel, in_none, runE_none ll_none, in_Asks, runE_none ll_Asks, in_Give, runE_none ll_Give, in_Miss, runE_none ll_Miss, in_Done, runE_none ll_Done, in_Copy, runE_none ll_Copy, in_on, runE_none ll_on, in_asked, runE_none ll_asked, in_into, runE_none ll_into, in_through, runE_none ll_through, in_ends, runE_none ll_ends, in_New, runE_none ll_New, in_same, runE_none ll_same]
      rw [ret_scp_goto rfl]
      refine ret_again (by decide) (.inl rfl) ?_
      rw [ret_inscope]
      refine on_loop r 1 .ro _ _ (by omega) (fun _ => rfl) (.inl rfl) (by simp only [en, ↓reduceIte, Nat.reduceEqDiff, E0]) ?_ (hk.trans (Keep.set a _ _))
      exact set_eq h
theorem on_ic {H : Heap} {a : Nat} {w : Wk} (hw : Wat H a w) (hf : w.fin = none) (hl : w.parts.length ≤ 10000) :
    ∃ H', (cbL tab).ic 66 [.ptr a 0] H = some (.ret (.tup []), H') ∧ Wat H' a (onM w) ∧ Keep a H H' := by
  obtain ⟨at_, l, links, fol, fin⟩ := w
  dsimp only at hf hl
  subst hf
  obtain ⟨s, tk, h1, h2, h3⟩ := hw
  have key : ∃ o H', (cbL tab).ic 66 [.ptr a 0] H = some (o, H') ∧ o = .ret (.tup []) ∧ Wat H' a (onM ⟨at_, l, links, fol, none⟩) ∧ Keep a H H' := by
    refine ic_wp (fi := c66) rfl rfl (by simp [c66]) (by decide) ?_
    show Ret (cbL tab) none 32 _ [.code (.scope onW)] .normal (argE [.ptr a 0]) [] H
    rw [ret_scope]
    unfold onW
    simp (disch := omega) only [wk, avalE, aactE, evPE, boundE, asNat, bv_seql cellsEq_ii, bv_sneqd cellsEq_ii, readC, allOne, fillL, resE, tupled, ↓reduceIte, Nat.reduceEqDiff, Int.reduceEq, Int.reduceLT, Int.reduceLE, Nat.reduceAdd, Nat.reduceMul, Nat.reduceLT, Nat.reduceLeDiff, reduceCtorEq]
    exact on_loop l s tk _ H hl h1 (h2.imp (·.1) id) rfl h3 (Keep.refl a H)
  obtain ⟨o, H', k1, rfl, k2, k3⟩ := key
  exact ⟨H', k1, k2, k3⟩
def thAs : ACode := (.region [⟨(.some 9), (.mv (.t 48)), .none⟩])
def thBd : ACode := (.block 1 (.region [⟨(.some 49), (.load 1 false (.t 7)), .none⟩, ⟨(.some 50), (.mv (.t 9)), .none⟩, ⟨(.some 51), (.bslice 1 1 [(.str (ByteArray.mk (Array.mk [])))] [(0, (1, (.t 50)))]), .none⟩, ⟨(.some 52), (.append 1 16 (.t 49) (.t 51)), .none⟩, ⟨.none, (.store 1 (.t 7) (.t 52)), .none⟩]))
def thTl : ACode := (.seq (.region [⟨(.some 7), (.alloc [(.sl 0 0 [] .z)]), .none⟩]) (.seq (.seq (.region [⟨(.some 45), (.mv (.t 4)), .none⟩, ⟨(.some 46), (.callf 21 [(.t 45)]), .none⟩]) (.block 0 (.range (.t 46) [47, 48] (.region [⟨(.some 9), (.mv (.t 48)), .none⟩]) (.block 1 (.region [⟨(.some 49), (.load 1 false (.t 7)), .none⟩, ⟨(.some 50), (.mv (.t 9)), .none⟩, ⟨(.some 51), (.bslice 1 1 [(.str (ByteArray.mk (Array.mk [])))] [(0, (1, (.t 50)))]), .none⟩, ⟨(.some 52), (.append 1 16 (.t 49) (.t 51)), .none⟩, ⟨.none, (.store 1 (.t 7) (.t 52)), .none⟩]))))) (.seq (.drawn [⟨(.some 53), (.mv (.t 0)), .none⟩, ⟨(.some 54), (.load 1 false (.t 7)), .none⟩, ⟨(.some 55), (.mv (.t 0)), .none⟩, ⟨(.some 56), (.nilck (.t 55)), .none⟩, ⟨(.some 57), (.fld 7 (.t 56)), .none⟩, ⟨(.some 58), (.load 1 false (.t 57)), .none⟩, ⟨(.some 59), (.bslice 1 2 [(.sl 0 0 [] .z), (.sl 0 0 [] .z)] [(0, (1, (.t 54))), (1, (1, (.t 58)))]), .none⟩, ⟨(.some 60), (.callf 87 [(.t 59)]), .none⟩] [⟨(.some 61), (.nilck (.t 53)), .none⟩, ⟨(.some 62), (.fld 7 (.t 61)), .none⟩, ⟨.none, (.store 1 (.t 62) (.t 60)), .none⟩]) (.region [⟨(.some 63), (.mv (.t 0)), .none⟩, ⟨(.some 64), (.callf 66 [(.t 63)]), .none⟩]))))
/-- What the loop over a target's parts keeps. -/
structure ThR (N k id : Nat) (tm : List AV) (L : List (List UInt8)) (H1 : Heap) (j : Nat) (H : Heap) : Prop where
  own : ∃ v, H[k]? = some (.cells [v]) ∧ Own H 1 v j (encs strA (L.take j)) ∧ (∀ s n c, v ≠ .sl s n c .e) ∧ ∀ g, tokOf v = some g → N ≤ g
  keep : ∀ (i : Nat) (o : AObj), i ≠ k → H1[i]? = some o → H[i]? = some o
  len : N ≤ H.length
theorem th_round {N k id : Nat} {tm : List AV} {L : List (List UInt8)} {H1 : Heap} {E : Env} (ha : Ag 65 tm E) (E7 : E 7 = .ptr k 0) (hN : N = H1.length) (hk : k < N) (hki : k ≠ id) (hlo : H1[id]? = some (.loop 0 .normal tm [47, 48] thAs thBd)) (hL : L.length ≤ 10000)
    (j : Nat) (x : List UInt8) (hx : L[j]? = some x) (H : Heap) (hR : ThR N k id tm L H1 j H) :
    ∃ H', (cbL tab).yl id [.int .i64 (j : Nat), .str (bs x)] H = some (.ret (.bool true), H') ∧ ThR N k id tm L H1 (j + 1) H' := by
  obtain ⟨⟨v, hv, ho, hne, hg⟩, hkeep, hlen⟩ := hR
  have hjl := (List.getElem?_eq_some_iff.1 hx).1
  have hloH := hkeep id _ (fun e => hki e.symm) hlo
  have key := yl_wp (tab := tab) (id := id) (P := fun b H' => b = true ∧ ThR N k id tm L H1 (j + 1) H') (args := [.int .i64 (j : Nat), .str (bs x)]) (H := H) (readLoop_of hloH) ha rfl (by decide) (by decide) (by decide) (by decide) (by decide) ?_
  · obtain ⟨b, H', k1, rfl, k2⟩ := key
    exact ⟨H', k1, k2⟩
  unfold thAs
  simp (disch := omega) only [wk, avalE, aactE, evPE, boundE, asNat, bv_seql cellsEq_ii, bv_sneqd cellsEq_ii, readC, allOne, fillL, resE, tupled, ↓reduceIte, Nat.reduceEqDiff, Int.reduceEq, Int.reduceLT, Int.reduceLE, Nat.reduceAdd, Nat.reduceMul, Nat.reduceLT, Nat.reduceLeDiff, reduceCtorEq, updPs_cons, updPs_nil]
  refine ⟨rfl, rfl, _, _, _, _, _, readLoop_of hloH, ?_⟩
  unfold thBd
  have kk : ∀ o, (H.set id o)[k]? = some (.cells [v]) := fun o => by rw [set_ne (fun e => hki e.symm)]; exact hv
  have ho1 : ∀ o, Own (H.set id o) 1 v j (encs strA (L.take j)) := fun o => ho.set hloH (by intro s e; cases e)
  simp (disch := omega) only [wk, avalE, aactE, evPE, boundE, asNat, bv_seql cellsEq_ii, bv_sneqd cellsEq_ii, readC, allOne, fillL, resE, tupled, ↓reduceIte, Nat.reduceEqDiff, Int.reduceEq, Int.reduceLT, Int.reduceLE, Nat.reduceAdd, Nat.reduceMul, Nat.reduceLT, Nat.reduceLeDiff, reduceCtorEq, E7, kk]
  refine runX_app (ho1 _) (by omega) (by omega) (by omega) (by omega) rfl rfl (fun H2 q1 q2 q3 => ?_)
  have k2 := q2.cells (ho1 _) rfl (kk _) (by intro s e; cases e)
  have i2 := q2.cells (ho1 _) rfl (id := id) (set_eq hloH) (by intro s e; cases e)
  have et : encs strA (L.take j) ++ [AV.str (bs x)] = encs strA (L.take (j + 1)) := by rw [List.take_add_one, hx, encs_append]; rfl
  rw [et] at q1 ⊢
  simp (disch := omega) only [wk, avalE, aactE, evPE, boundE, asNat, bv_seql cellsEq_ii, bv_sneqd cellsEq_ii, readC, allOne, fillL, resE, tupled, ↓reduceIte, Nat.reduceEqDiff, Int.reduceEq, Int.reduceLT, Int.reduceLE, Nat.reduceAdd, Nat.reduceMul, Nat.reduceLT, Nat.reduceLeDiff, reduceCtorEq, E7, k2]
  have i3 := fun o => (show (H2.set k o)[id]? = H2[id]? from set_ne hki).trans i2
  refine ⟨rfl, _, _, _, _, _, _, readLoop_of (i3 _), rfl, ⟨.sl 1 (j + 1) (encs strA (L.take (j + 1))) (.own (H.set id (.loop 1 .normal tm [47, 48] thAs thBd)).length), ?_, ?_, ?_, ?_⟩, ?_, ?_⟩
  · rw [set_ne (fun e => hki e.symm)]; exact set_eq k2
  · exact (q1.set k2 (by intro s e; cases e)).set (i3 _) (by intro s e; cases e)
  · intro s n c e; cases e
  · intro g hg'; cases hg'; rw [List.length_set]; exact hlen
  · intro i o hi ho'
    by_cases hii : i = id
    · subst hii
      rw [hlo] at ho'
      cases ho'
      exact set_eq (i3 _)
    · rw [set_ne (fun e => hii e.symm), set_ne (fun e => hi e.symm)]
      refine q2 i o (by rw [set_ne (fun e => hii e.symm)]; exact hkeep i o hi ho') (fun e => ?_)
      have := hg i e
      have := (List.getElem?_eq_some_iff.1 ho').1
      omega
  · simp only [List.length_set] at q3 ⊢; omega
theorem conc_val (L l : List (List UInt8)) (s1 s2 : Nat) (t1 t2 t3 : Tk) (h1 : L ≠ [] → s1 = 1) (h2 : l ≠ [] → s2 = 1) (hl : L.length + l.length ≤ 100000) (H : Heap) :
    pcx (cbL tab) 87 [.sl 1 2 [.sl s1 L.length (encs strA L) t1, .sl s2 l.length (encs strA l) t2] t3] H = some (.plain (if L ++ l = [] then .sl 0 0 [] .z else .sl 1 (L ++ l).length (encs strA (L ++ l)) .ro)) := by
  refine pcx_N rfl (pc_con (g := concC) rfl rfl ?_)
  have r1 : (L.length = 0 ∨ s1 = 1) ∧ L.length ≤ (encs strA L).length := ⟨by by_cases h : L = []; exact .inl (by rw [h]; rfl); exact .inr (h1 h), by rw [lenS]; omega⟩
  have r2 : (l.length = 0 ∨ s2 = 1) ∧ l.length ≤ (encs strA l).length := ⟨by by_cases h : l = []; exact .inl (by rw [h]; rfl); exact .inr (h2 h), by rw [lenS]; omega⟩
  have e1 : (encs strA L).take L.length = encs strA L := List.take_of_length_le (by rw [lenS]; omega)
  have e2 : (encs strA l).take l.length = encs strA l := List.take_of_length_le (by rw [lenS]; omega)
  have hr : rowsA [.sl s1 L.length (encs strA L) t1, .sl s2 l.length (encs strA l) t2] = some [encs strA L, encs strA l] := by
    simp only [rowsA, r1, r2, if_true, and_self, Option.map_some, e1, e2]
  have hf : ([encs strA L, encs strA l] : List (List AV)).flatten = encs strA (L ++ l) := by rw [encs_append]; simp
  unfold concC
  have ht : ([.sl s1 L.length (encs strA L) t1, .sl s2 l.length (encs strA l) t2] : List AV).take 2 = [.sl s1 L.length (encs strA L) t1, .sl s2 l.length (encs strA l) t2] := rfl
  simp only [ht, hr, hf]
  have hz : encs strA (L ++ l) = [] ↔ L ++ l = [] := by
    constructor
    · intro h; have := lenS (L ++ l); rw [h] at this; exact List.eq_nil_of_length_eq_zero this.symm
    · intro h; rw [h]; rfl
  have hn : (encs strA (L ++ l)).length = (L ++ l).length := lenS _
  have hc : 0 < 2 ∧ 2 ≤ ([.sl s1 L.length (encs strA L) t1, .sl s2 l.length (encs strA l) t2] : List AV).length ∧ 2 ≤ 4294967296 ∧ (encs strA (L ++ l)).length ≤ 4294967296 := ⟨by omega, by simp, by omega, by rw [hn, List.length_append]; omega⟩
  rw [if_pos hc, hn]
  by_cases h : L ++ l = []
  · rw [if_pos h, if_pos (hz.2 h)]
  · rw [if_neg h, if_neg (fun e => h (hz.1 e))]
theorem Wat.set_ne {H : Heap} {a i : Nat} {o : AObj} {w : Wk} (h : Wat H a w) (hi : i ≠ a) : Wat (H.set i o) a w := by
  obtain ⟨s, tk, h1, h2, h3⟩ := h
  exact ⟨s, tk, h1, h2, by rw [List.getElem?_set_ne hi]; exact h3⟩
def allT (_ : Unit) (_ : Nat) (_ : List UInt8) : Unit × Bool := ((), true)
theorem th_tail {H0 G : Heap} {a : Nat} (hk0 : Keep a H0 G) {at_ links : Int} {fol : Bool} {l : List (List UInt8)} {s : Nat} {tk : Tk} (hs : l ≠ [] → s = 1) (hl : l.length ≤ 5000)
    (hG : G[a]? = some (.cells [.int .i64 0, .int .i64 0, .str (bs []), .int .i64 0, .int .i64 0, .bool false, .int .i64 at_, .sl s l.length (encs strA l) tk, .int .i64 links, .bool fol, .bool true]))
    {E : Env} (E0 : E 0 = .ptr a 0) (p : List UInt8) (E4 : E 4 = .str (bs p)) (hp : partsE p = 0) (hpl : p.length ≤ 5000) :
    Ret (cbL tab) none 65 (Am.Ends tab [] (fun o H' => o = .ret (.tup []) ∧ Wat H' a (onM ⟨at_, cutP p ++ l, links, fol, none⟩) ∧ Keep a H0 H')) [.code thTl] .normal E [] G := by
  have hal := (List.getElem?_eq_some_iff.1 hG).1
  obtain ⟨s1, t1, k1, k2, k3⟩ := rowV_form p
  have ei := fun H => each_ic p hpl H
  have bp := partsM_small p
  have hcp : partsM p = cutP p := if_pos hp
  rw [k1] at ei
  rw [hcp] at k2 bp
  rw [hcp] at ei
  generalize cutP p = L at *
  unfold thTl
  simp (disch := omega) only [wk, avalE, aactE, evPE, boundE, asNat, bv_seql cellsEq_ii, bv_sneqd cellsEq_ii, readC, allOne, fillL, resE, tupled, ↓reduceIte, Nat.reduceEqDiff, Int.reduceEq, Int.reduceLT, Int.reduceLE, Nat.reduceAdd, Nat.reduceMul, Nat.reduceLT, Nat.reduceLeDiff, reduceCtorEq, E0, E4, (ei _).1, (ei _).2, runE_none leach]
  refine ret_range (f := 61) (caps := [.ptr (G.length + 1) 0]) (by simp only [en, ↓reduceIte, Nat.reduceEqDiff, evE_t]) (fun tm ha => ?_)
  have e7 : ∀ (c : AObj), (G ++ [c]).length = G.length + 1 := fun c => by simp
  generalize hG2 : G ++ [AObj.cells [AV.sl 0 0 [] Tk.z]] ++ [AObj.cells [AV.sl s1 L.length (encs strA L) t1]] = G2
  have hlen : G2.length = G.length + 2 := by rw [← hG2]; simp
  have up : ∀ (i : Nat) (o : AObj), G[i]? = some o → G2[i]? = some o := fun i o h => by
    have := (List.getElem?_eq_some_iff.1 h).1
    rw [← hG2, List.append_assoc, List.getElem?_append_left this]; exact h
  have g0 : G2[G.length]? = some (.cells [.sl 0 0 [] .z]) := by rw [← hG2, List.append_assoc, List.getElem?_append_right (Nat.le_refl _), Nat.sub_self]; rfl
  have g1 : G2[G.length + 1]? = some (.cells [.sl s1 L.length (encs strA L) t1]) := by rw [← hG2, List.append_assoc, List.getElem?_append_right (by omega), show G.length + 1 - G.length = 1 by omega]; rfl
  have up1 : ∀ (i : Nat) (o : AObj), G2[i]? = some o → (G2 ++ [.defd, .loop 0 .normal tm [47, 48] thAs thBd])[i]? = some o := fun i o h => by rw [List.getElem?_append_left (List.getElem?_eq_some_iff.1 h).1]; exact h
  have l1 : (G2 ++ [.defd, .loop 0 .normal tm [47, 48] thAs thBd])[G2.length + 1]? = some (.loop 0 .normal tm [47, 48] thAs thBd) := by simp
  have d1 : (G2 ++ [.defd, .loop 0 .normal tm [47, 48] thAs thBd])[G2.length]? = some .defd := by simp
  have n1 : (G2 ++ [AObj.defd, AObj.loop 0 .normal tm [47, 48] thAs thBd]).length = G2.length + 2 := by simp
  obtain ⟨o, H2, q1, rfl, q2⟩ := each1_ic2 (fun j _ H => ThR (G2.length + 2) G.length (G2.length + 1) tm L (G2 ++ [.defd, .loop 0 .normal tm [47, 48] thAs thBd]) j H) (fun _ _ => False) allT (G2.length + 1) (G.length + 1) L (by omega) s1 t1 k2
    (fun q H j x hx hR => by
      obtain ⟨H', y1, y2⟩ := th_round ha (by simp only [en, ↓reduceIte, Nat.reduceEqDiff]) n1.symm (by omega) (by omega) l1 (by omega) j x hx H hR
      exact ⟨H', y1, y2⟩)
    () (G2 ++ [.defd, .loop 0 .normal tm [47, 48] thAs thBd]) ⟨⟨_, up1 _ _ g0, .inl ⟨.inl rfl, rfl, rfl⟩, (by intro s n c e; cases e), (by intro g e; cases e)⟩, fun _ _ _ h => h, by rw [n1]; exact Nat.le_refl _⟩ (up1 _ _ g1)
  rcases q2 with hR | hF
  case inr => exact hF.elim
  obtain ⟨⟨v, hv, ho, hne, _⟩, hkeep, hlen2⟩ := hR
  have l2 := hkeep _ _ (by omega) l1
  have d2 := hkeep _ _ (by omega) d1
  refine ⟨_, H2, _, _, _, _, _, _, q1, readLoop_of l2, by decide, rfl, ?_⟩
  change Ret _ _ _ _ _ _ _ _ (H2.set (G2.length + 1) (.loop 3 .normal tm [47, 48] thAs thBd))
  rw [List.take_of_length_le (Nat.le_refl _)] at ho
  obtain ⟨s', t', rfl, hs'⟩ : ∃ s' t', v = .sl s' L.length (encs strA L) t' ∧ (L ≠ [] → s' = 1) := by
    rcases ho with ⟨h1 | h1, h2, h3⟩ | ⟨h1, g, h2, h3⟩
    · exact ⟨0, .z, h1, fun h => absurd (List.eq_nil_of_length_eq_zero h2) h⟩
    · exact absurd h1 (hne _ _ _)
    · exact ⟨1, .own g, h2, fun _ => rfl⟩
  have a2 := hkeep _ _ (by omega) (up1 _ _ (up _ _ hG))
  have kp : Keep a G H2 := ⟨by omega, fun i o hi h => by
    have := (List.getElem?_eq_some_iff.1 h).1
    exact hkeep i o (by omega) (up1 _ _ (up _ _ h))⟩
  have s0 : ∀ lo i (q : AObj), H2[i]? = some q → i ≠ G2.length + 1 → (H2.set (G2.length + 1) lo)[i]? = some q := fun lo i q hq hne => by rw [set_ne (fun e => hne e.symm)]; exact hq
  have v3 := s0 (.loop 3 .normal tm [47, 48] thAs thBd) _ _ hv (by omega)
  have a3 := s0 (.loop 3 .normal tm [47, 48] thAs thBd) _ _ a2 (by omega)
  have d3 := s0 (.loop 3 .normal tm [47, 48] thAs thBd) _ _ d2 (by omega)
  have kp3 : Keep a G (H2.set (G2.length + 1) (.loop 3 .normal tm [47, 48] thAs thBd)) := ⟨by rw [List.length_set]; exact kp.1, fun i o hi h => by
    have := (List.getElem?_eq_some_iff.1 h).1
    exact s0 _ _ _ (kp.2 i o hi h) (by omega)⟩
  generalize hH3 : H2.set (G2.length + 1) (.loop 3 .normal tm [47, 48] thAs thBd) = H3 at v3 a3 d3 kp3
  clear hH3 q1 l2 d2 hv ho hkeep a2 s0 kp
  have cv := fun t3 H => conc_val L l s' s t' tk t3 hs' hs (by omega) H
  obtain ⟨sz, tz, hz, z1, z2⟩ : ∃ sz tz, (if L ++ l = [] then AV.sl 0 0 [] .z else .sl 1 (L ++ l).length (encs strA (L ++ l)) .ro) = .sl sz (L ++ l).length (encs strA (L ++ l)) tz ∧ (L ++ l ≠ [] → sz = 1) ∧ (tz = .ro ∨ (tz = .z ∧ L ++ l = [])) := by
    by_cases h : L ++ l = []
    · rw [if_pos h, h]; exact ⟨0, .z, rfl, fun h => absurd rfl h, .inr ⟨rfl, rfl⟩⟩
    · rw [if_neg h]; exact ⟨1, .ro, rfl, fun _ => rfl, .inl rfl⟩
  simp only [hz] at cv
  have hw : Wat (H3.set a (.cells [.int .i64 0, .int .i64 0, .str (bs []), .int .i64 0, .int .i64 0, .bool false, .int .i64 at_, .sl sz (L ++ l).length (encs strA (L ++ l)) tz, .int .i64 links, .bool fol, .bool true])) a ⟨at_, L ++ l, links, fol, none⟩ := ⟨sz, tz, z1, z2.imp (fun h => ⟨h, rfl⟩) id, set_eq a3⟩
  obtain ⟨H4, o1, o2, o3⟩ := on_ic hw rfl (by simp only [List.length_append]; omega)
  have e8 : ∀ (c : AV), AV.flat (.sl sz (L ++ l).length (encs strA (L ++ l)) tz) = [.sl sz (L ++ l).length (encs strA (L ++ l)) tz] := fun _ => rfl
  generalize hm : (L ++ l).length = m at *
  simp (disch := omega) only [wk, avalE, aactE, evPE, boundE, asNat, bv_seql cellsEq_ii, bv_sneqd cellsEq_ii, readC, allOne, fillL, resE, tupled, ↓reduceIte, Nat.reduceEqDiff, Int.reduceEq, Int.reduceLT, Int.reduceLE, Nat.reduceAdd, Nat.reduceMul, Nat.reduceLT, Nat.reduceLeDiff, reduceCtorEq, E0, v3, a3, cv, o1, in_none, runE_none ll_none, in_Asks, runE_none ll_Asks, in_Give, runE_none ll_Give, in_Miss, runE_none ll_Miss, in_Done, runE_none ll_Done, in_Copy, runE_none ll_Copy, in_on, runE_none ll_on, in_asked, runE_none ll_asked, in_into, runE_none ll_into, in_through, runE_none ll_through, in_ends, runE_none ll_ends, in_New, runE_none ll_New, in_same, runE_none ll_same]
  have d4 : H4[G2.length]? = some .defd := o3.2 _ _ (by omega) (by rw [set_ne (by omega)]; exact d3)
  rw [ends_mark_n d4]
  simp (disch := omega) only [wk, avalE, aactE, evPE, boundE, asNat, bv_seql cellsEq_ii, bv_sneqd cellsEq_ii, readC, allOne, fillL, resE, tupled, ↓reduceIte, Nat.reduceEqDiff, Int.reduceEq, Int.reduceLT, Int.reduceLE, Nat.reduceAdd, Nat.reduceMul, Nat.reduceLT, Nat.reduceLeDiff, reduceCtorEq]
  refine ⟨o2.set_ne (by omega), ?_⟩
  have kp4 := kp3.trans ((Keep.set a _ _).trans o3)
  exact hk0.trans ⟨by rw [List.length_set]; exact kp4.1, fun i o hi h => by
    have := (List.getElem?_eq_some_iff.1 h).1
    rw [set_ne (by omega)]
    exact kp4.2 i o hi h⟩
theorem stradd {xo yo : X} {t : List UInt8} (h : t.length ≤ 4000) : binV .add .str xo yo (.str (bs [47])) (.str (bs t)) = some (.str (bs (47 :: t))) := by
  show (if (bs [47]).size + (bs t).size ≤ 9223372036854775807 then some (AV.str (bs [47] ++ bs t)) else none) = _
  rw [if_pos (by rw [bs_size, bs_size]; simp only [List.length_cons, List.length_nil]; omega), bs_append]; rfl
theorem prefix17 (t : List UInt8) (H : Heap) : pcx (cbL tab) 54 [.str (bs t), .str (ByteArray.mk (Array.mk [UInt8.ofNat 47]))] H = some (.plain (.bool (decide (t.head? = some 47)))) := prefix_px t H
theorem through_ic {H : Heap} {a : Nat} {w : Wk} (hw : Wat H a w) (hf : w.fin = none) (f : Fnd) (ht : f.target.length ≤ 4000) (hl : w.parts.length ≤ 5000) (hk : 0 ≤ w.links ∧ w.links ≤ 100) :
    ∃ H', (cbL tab).ic 71 [.ptr a 0, .agg f.cells] H = some (.ret (.tup []), H') ∧ Wat H' a (linkM w f.target) ∧ Keep a H H' := by
  obtain ⟨at_, l, links, fol, fin⟩ := w
  obtain ⟨fi, fk, t⟩ := f
  dsimp only at hf hl hk ht
  subst hf
  obtain ⟨s, tk, h1, h2, h3⟩ := hw
  dsimp only at h1 h2 h3
  simp only [Wk.cells, Wk.endA, Option.getD_none, zeroW, Wd.cells, Option.isSome_none, List.cons_append, List.nil_append] at h3
  have hlt := (List.getElem?_eq_some_iff.1 h3).1
  have key : ∃ o H', (cbL tab).ic 71 [.ptr a 0, .agg (Fnd.cells ⟨fi, fk, t⟩)] H = some (o, H') ∧ o = .ret (.tup []) ∧ Wat H' a (linkM ⟨at_, l, links, fol, none⟩ t) ∧ Keep a H H' := by
    refine ic_wp (fi := c71) rfl rfl (by simp [c71]) (by decide) ?_
    show Ret (cbL tab) none 65 (Am.Ends tab [] _) [.code (.seq _ (.seq _ (.seq _ (.seq _ (.seq _ thTl)))))] .normal (argE [.ptr a 0, .agg (Fnd.cells ⟨fi, fk, t⟩)]) [] H
    unfold Fnd.cells
    have g0 : ∀ (L : List AObj), (H ++ L)[H.length]? = L[0]? := fun L => by rw [List.getElem?_append_right (by omega)]; congr 1; omega
    have a1 : ∀ (L : List AObj), (H ++ L)[a]? = some _ := fun L => by rw [List.getElem?_append_left hlt]; exact h3
    have a2 : ∀ (L : List AObj) (o : AObj), ((H ++ L).set a o)[a]? = some o := fun L o => set_eq (a1 L)
    have a3 : ∀ (L : List AObj) (o : AObj), ((H ++ L).set a o)[H.length]? = L[0]? := fun L o => by rw [set_ne (by omega)]; exact g0 L
    have kk : ∀ (L : List AObj) (o : AObj), Keep a H ((H ++ L).set a o) := fun L o => (Keep.app a H L).trans (Keep.set a _ _)
    unfold linkM
    by_cases h8 : 8 < links + 1
    · have e := fun f => ends_ic (a2 [.cells [.int .i64 fi, .int .i64 fk, .str (bs t)]] (.cells [.int .i64 0, .int .i64 0, .str (bs []), .int .i64 0, .int .i64 0, .bool false, .int .i64 at_, .sl s l.length (encs strA l) tk, .int .i64 (links + 1), .bool f, .bool true])) ⟨272, 0, [], 0, 0⟩
      obtain ⟨H', q1, q2, q3⟩ := e fol
      simp only [Wd.cells] at q1
      simp (disch := omega) only [wk, avalE, aactE, evPE, boundE, asNat, bv_seql cellsEq_ii, bv_sneqd cellsEq_ii, readC, allOne, fillL, resE, tupled, ↓reduceIte, Nat.reduceEqDiff, Int.reduceEq, Int.reduceLT, Int.reduceLE, Nat.reduceAdd, Nat.reduceMul, Nat.reduceLT, Nat.reduceLeDiff, reduceCtorEq, g0, a1, a2, a3, h8, q1, kemp, in_none, runE_none ll_none, in_Asks, runE_none ll_Asks, in_Give, runE_none ll_Give, in_Miss, runE_none ll_Miss, in_Done, runE_none ll_Done, in_Copy, runE_none ll_Copy, in_on, runE_none ll_on, in_asked, runE_none ll_asked, in_into, runE_none ll_into, in_through, runE_none ll_through, in_ends, runE_none ll_ends, in_New, runE_none ll_New, in_same, runE_none ll_same]
      exact ⟨⟨0, .z, fun h => absurd rfl h, .inr ⟨rfl, rfl⟩, q2⟩, (kk _ _).trans q3⟩
    have pf := fun H => prefix17 t H
    by_cases h47 : t.head? = some 47
    · have sl : slashed t = t := if_pos h47
      rw [decide_eq_true h47] at pf
      have pp := fun H => parts_px t (by omega) H
      obtain ⟨s1, t1, r1, r2, r3⟩ := rowV_form t
      unfold partsV at pp
      rw [r1] at pp
      rw [sl]
      by_cases hp : partsE t = 0
      · simp (disch := omega) only [wk, avalE, aactE, evPE, boundE, asNat, bv_seql cellsEq_ii, bv_sneqd cellsEq_ii, readC, allOne, fillL, resE, tupled, ↓reduceIte, Nat.reduceEqDiff, Int.reduceEq, Int.reduceLT, Int.reduceLE, Nat.reduceAdd, Nat.reduceMul, Nat.reduceLT, Nat.reduceLeDiff, reduceCtorEq, g0, a1, a2, a3, h8, h47, pf, pp, hp, kemp, List.set_set, in_none, runE_none ll_none, in_Asks, runE_none ll_Asks, in_Give, runE_none ll_Give, in_Miss, runE_none ll_Miss, in_Done, runE_none ll_Done, in_Copy, runE_none ll_Copy, in_on, runE_none ll_on, in_asked, runE_none ll_asked, in_into, runE_none ll_into, in_through, runE_none ll_through, in_ends, runE_none ll_ends, in_New, runE_none ll_New, in_same, runE_none ll_same]
        exact th_tail (kk _ _) h1 hl (a2 _ _) (by simp only [en, ↓reduceIte, Nat.reduceEqDiff]) t (by simp only [en, ↓reduceIte, Nat.reduceEqDiff]) hp (by omega)
      · obtain ⟨H', q1, q2, q3⟩ := ends_ic (a2 [.cells [.int .i64 fi, .int .i64 fk, .str (bs t)]] (.cells [.int .i64 0, .int .i64 0, .str (bs []), .int .i64 0, .int .i64 0, .bool false, .int .i64 1, .sl s l.length (encs strA l) tk, .int .i64 (links + 1), .bool fol, .bool true])) ⟨partsE t, 0, [], 0, 0⟩
        simp only [Wd.cells] at q1
        simp (disch := omega) only [wk, avalE, aactE, evPE, boundE, asNat, bv_seql cellsEq_ii, bv_sneqd cellsEq_ii, readC, allOne, fillL, resE, tupled, ↓reduceIte, Nat.reduceEqDiff, Int.reduceEq, Int.reduceLT, Int.reduceLE, Nat.reduceAdd, Nat.reduceMul, Nat.reduceLT, Nat.reduceLeDiff, reduceCtorEq, g0, a1, a2, a3, h8, h47, pf, pp, hp, kemp, List.set_set, q1, in_none, runE_none ll_none, in_Asks, runE_none ll_Asks, in_Give, runE_none ll_Give, in_Miss, runE_none ll_Miss, in_Done, runE_none ll_Done, in_Copy, runE_none ll_Copy, in_on, runE_none ll_on, in_asked, runE_none ll_asked, in_into, runE_none ll_into, in_through, runE_none ll_through, in_ends, runE_none ll_ends, in_New, runE_none ll_New, in_same, runE_none ll_same]
        exact ⟨⟨0, .z, fun h => absurd rfl h, .inr ⟨rfl, rfl⟩, q2⟩, (kk _ _).trans q3⟩
    · have sl : slashed t = 47 :: t := if_neg h47
      rw [decide_eq_false h47] at pf
      have pp := fun H => parts_px (47 :: t) (by simp only [List.length_cons]; omega) H
      obtain ⟨s1, t1, r1, r2, r3⟩ := rowV_form (47 :: t)
      unfold partsV at pp
      rw [r1] at pp
      rw [sl]
      have k47 : ByteArray.mk (Array.mk [UInt8.ofNat 47]) = bs [47] := rfl
      rw [k47] at pf
      by_cases hp : partsE (47 :: t) = 0
      · simp (disch := omega) only [wk, avalE, aactE, evPE, boundE, asNat, bv_seql cellsEq_ii, bv_sneqd cellsEq_ii, readC, allOne, fillL, resE, tupled, ↓reduceIte, Nat.reduceEqDiff, Int.reduceEq, Int.reduceLT, Int.reduceLE, Nat.reduceAdd, Nat.reduceMul, Nat.reduceLT, Nat.reduceLeDiff, reduceCtorEq, g0, a1, a2, a3, h8, h47, pf, pp, hp, kemp, k47, stradd ht, List.set_set, in_none, runE_none ll_none, in_Asks, runE_none ll_Asks, in_Give, runE_none ll_Give, in_Miss, runE_none ll_Miss, in_Done, runE_none ll_Done, in_Copy, runE_none ll_Copy, in_on, runE_none ll_on, in_asked, runE_none ll_asked, in_into, runE_none ll_into, in_through, runE_none ll_through, in_ends, runE_none ll_ends, in_New, runE_none ll_New, in_same, runE_none ll_same]
        exact th_tail (kk _ _) h1 hl (a2 _ _) (by simp only [en, ↓reduceIte, Nat.reduceEqDiff]) (47 :: t) (by simp only [en, ↓reduceIte, Nat.reduceEqDiff]) hp (by simp only [List.length_cons]; omega)
      · obtain ⟨H', q1, q2, q3⟩ := ends_ic (a2 [.cells [.int .i64 fi, .int .i64 fk, .str (bs t)]] (.cells [.int .i64 0, .int .i64 0, .str (bs []), .int .i64 0, .int .i64 0, .bool false, .int .i64 at_, .sl s l.length (encs strA l) tk, .int .i64 (links + 1), .bool fol, .bool true])) ⟨partsE (47 :: t), 0, [], 0, 0⟩
        simp only [Wd.cells] at q1
        simp (disch := omega) only [wk, avalE, aactE, evPE, boundE, asNat, bv_seql cellsEq_ii, bv_sneqd cellsEq_ii, readC, allOne, fillL, resE, tupled, ↓reduceIte, Nat.reduceEqDiff, Int.reduceEq, Int.reduceLT, Int.reduceLE, Nat.reduceAdd, Nat.reduceMul, Nat.reduceLT, Nat.reduceLeDiff, reduceCtorEq, g0, a1, a2, a3, h8, h47, pf, pp, hp, kemp, k47, stradd ht, List.set_set, q1, in_none, runE_none ll_none, in_Asks, runE_none ll_Asks, in_Give, runE_none ll_Give, in_Miss, runE_none ll_Miss, in_Done, runE_none ll_Done, in_Copy, runE_none ll_Copy, in_on, runE_none ll_on, in_asked, runE_none ll_asked, in_into, runE_none ll_into, in_through, runE_none ll_through, in_ends, runE_none ll_ends, in_New, runE_none ll_New, in_same, runE_none ll_same]
        exact ⟨⟨0, .z, fun h => absurd rfl h, .inr ⟨rfl, rfl⟩, q2⟩, (kk _ _).trans q3⟩
  obtain ⟨o, H', k1, rfl, k2, k3⟩ := key
  exact ⟨H', k1, k2, k3⟩
end Go.Proofs.YtmogflndepihnaaDoor
