/- THE NAMES THAT A STREAM WAS TOLD. No condition but those stated. -/
import Derived.Test.YtailfegmnkldoaaS1
import Derived.Test.YtailfegmnkldoaaAmRng
set_option linter.unusedSimpArgs false
set_option linter.unusedVariables false
set_option linter.unusedSectionVars false
namespace Go.Proofs.Ytailfegmnkldoaa
open Go Go.Am Go.Nam Go.Stm Go.Rec
set_option maxHeartbeats 4000000
set_option maxRecDepth 10000
theorem told_px {H : Heap} {a : Nat} {p : List UInt8} {m : Int} {s : St} (hs : Sat H a p m s) : ∃ sz tk, (s.told ≠ [] → sz = 3) ∧ tk.hf = true ∧ (cbL tab).ic 82 [.ptr a 0] H = some (.ret (.fn 138 [.ptr H.length 0]), H ++ [.cells [.sl sz s.told.length (encs nmA s.told) tk]]) := by
  obtain ⟨sz, tk, h1, h2, h3⟩ := hs
  refine ⟨sz, tk, h1, by rcases h2 with rfl | ⟨rfl, _⟩ <;> rfl, ?_⟩
  unfold goC at h3
  have hlt := (List.getElem?_eq_some_iff.1 h3).1
  have a1 : ∀ (L : List AObj), (H ++ L)[a]? = _ := fun L => (List.getElem?_append_left hlt).trans h3
  have n0 := fun L => none_ic (a1 L)
  have g0 : ∀ (L : List AObj), (H ++ L)[H.length]? = L[0]? := fun L => by rw [List.getElem?_append_right (by omega)]; congr 1; omega
  have s0 : ∀ (L : List AObj) (o : AObj), (H ++ L).set H.length o = H ++ L.set 0 o := fun L o => by rw [List.set_append_right _ _ (by omega)]; congr 2; omega
  have : ∃ o H', (cbL tab).ic 82 [.ptr a 0] H = some (o, H') ∧ o = .ret (.fn 138 [.ptr H.length 0]) ∧ H' = H ++ [.cells [.sl sz s.told.length (encs nmA s.told) tk]] := by
    refine ic_wp (fi := c82) rfl rfl (by simp [c82]) (by decide) ?_
    unfold c82
    simp (disch := omega) only [wk, avalE, aactE, evPE, boundE, asNat, bv_seql cellsEq_ii, bv_sneqd cellsEq_ii, readC, allOne, fillL, resE, tupled, ↓reduceIte, Nat.reduceEqDiff, Int.reduceEq, Int.reduceLT, Int.reduceLE, Nat.reduceAdd, Nat.reduceMul, Nat.reduceLT, Nat.reduceLeDiff, reduceCtorEq, a1, n0, g0, s0, in_none, runE_none ll_none, in_Call, runE_none ll_Call, in_ends, runE_none ll_ends, in_Take, runE_none ll_Take, in_Seek, runE_none ll_Seek, in_Told, runE_none ll_Told, in_Over, runE_none ll_Over, in_Copy, runE_none ll_Copy, in_New, runE_none ll_New, in_told, runE_none ll_told, in_same, runE_none ll_same]
  obtain ⟨o, H', h, rfl, rfl⟩ := this
  exact h
theorem told1_ic (R : Nat → Heap → Prop) (id k : Nat) (L : List Nm) (hL : L.length ≤ 100000) (s : Nat) (tk : Tk) (hs : L ≠ [] → s = 3) (happ : ∀ j H c, R j H → R j (H ++ [.cells c]))
    (hstep : ∀ (H : Heap) (j : Nat) (x : Nm), L[j]? = some x → R j H → ∃ H', (cbL tab).yl id [.int .i64 (j : Nat), .agg (nmA x)] H = some (.ret (.bool true), H') ∧ R (j + 1) H')
    (H : Heap) (hR : R 0 H) (ha : H[k]? = some (.cells [.sl s L.length (encs nmA L) tk])) :
    ∃ o H', (cbL tab).ic 138 [.yld id, .ptr k 0] H = some (o, H') ∧ o = .ret (.tup []) ∧ R L.length H' := by
  refine ic_wp (fi := c138) rfl rfl (by simp [c138]) (by decide) ?_
  unfold c138
  simp (disch := omega) only [wk, avalE, aactE, evPE, boundE, asNat, bv_seql cellsEq_ii, bv_sneqd cellsEq_ii, readC, allOne, fillL, resE, tupled, ↓reduceIte, Nat.reduceEqDiff, Int.reduceEq, Int.reduceLT, Int.reduceLE, Nat.reduceAdd, Nat.reduceMul, Nat.reduceLT, Nat.reduceLeDiff, reduceCtorEq, ha]
  refine loop_ind (fun (x : List Nm × List Nm) E df H => L = x.1 ++ x.2 ∧ E 0 = .yld id ∧ E 5 = .sl s L.length (encs nmA L) tk ∧ E 6 = .int .i64 (L.length : Nat) ∧ E 7 = .int .i64 (x.1.length : Nat) ∧ df = [] ∧ R x.1.length H)
    (fun x => x.2.length) ([], L) (by decide) (.inl rfl) ⟨rfl, rfl, rfl, rfl, rfl, rfl, hR⟩ ?_
  intro ⟨pre, suf⟩ F df H1 ih hP
  obtain ⟨a1, F0, F5, F6, F7, hdf, hR1⟩ := hP
  dsimp only at a1 F7 hR1
  subst hdf
  have la : L.length = pre.length + suf.length := by rw [a1, List.length_append]
  cases suf with
  | nil =>
    have n1 : ¬ (pre.length : Int) < (L.length : Int) := by simp at la; omega
    have e : pre.length = L.length := by simp at la; omega
    rw [e] at hR1
    simp (disch := omega) only [wk, avalE, aactE, evPE, boundE, asNat, bv_seql cellsEq_ii, bv_sneqd cellsEq_ii, readC, allOne, fillL, resE, tupled, ↓reduceIte, Nat.reduceEqDiff, Int.reduceEq, Int.reduceLT, Int.reduceLE, Nat.reduceAdd, Nat.reduceMul, Nat.reduceLT, Nat.reduceLeDiff, reduceCtorEq, F0, F5, F6, F7, n1]
    exact hR1
  | cons x r =>
    have hs1 := hs (by rw [a1]; simp)
    subst hs1
    simp only [List.length_cons] at la
    have d1 : List.drop (pre.length * 3) (encs nmA L) = .int .u64 x.key :: .str (bs x.name) :: .int .i64 x.inode :: encs nmA r := by
      rw [a1, drop_pre (f := nmA) pre (x :: r)]; rfl
    have n1 : (pre.length : Int) < (L.length : Int) := by omega
    have g0 : ∀ (L : List AObj), (H1 ++ L)[H1.length]? = L[0]? := fun L => by rw [List.getElem?_append_right (by omega)]; congr 1; omega
    have s0 : ∀ (L : List AObj) (o : AObj), (H1 ++ L).set H1.length o = H1 ++ L.set 0 o := fun L o => by rw [List.set_append_right _ _ (by omega)]; congr 2; omega
    obtain ⟨H2, y1, y2⟩ := hstep (H1 ++ [.cells (nmA x)]) pre.length x (by rw [a1, List.getElem?_append_right (Nat.le_refl _), Nat.sub_self]; rfl) (happ _ _ _ hR1)
    unfold nmA at y1
    simp (disch := omega) only [wk, avalE, aactE, evPE, boundE, asNat, bv_seql cellsEq_ii, bv_sneqd cellsEq_ii, readC, allOne, fillL, resE, tupled, ↓reduceIte, Nat.reduceEqDiff, Int.reduceEq, Int.reduceLT, Int.reduceLE, Nat.reduceAdd, Nat.reduceMul, Nat.reduceLT, Nat.reduceLeDiff, reduceCtorEq, F0, F5, F6, F7, n1, d1, g0, s0, y1, Bool.not_true, kemp]
    refine ih (pre ++ [x], r) _ _ _ (by simp) ?_
    exact ⟨by simp [a1], by simp only [en, ↓reduceIte, Nat.reduceEqDiff, F0], by simp only [en, ↓reduceIte, Nat.reduceEqDiff, F5], by simp only [en, ↓reduceIte, Nat.reduceEqDiff, F6], by simp only [en, ↓reduceIte, Nat.reduceEqDiff], rfl, by dsimp only; rw [List.length_append]; exact y2⟩
def tdAs : ACode := (.seq (.region [⟨(.some 6), (.mv (.t 13)), .none⟩]) (.region [⟨(.some 7), (.alloc [(.int .u64 0), (.str (ByteArray.mk (Array.mk []))), (.int .i64 0)]), .none⟩, ⟨.none, (.store 3 (.t 7) (.t 14)), .none⟩]))
def tdBd : ACode := (.block 1 (.seq (.seq (.region [⟨(.some 15), (.mv (.t 6)), .none⟩, ⟨(.some 16), (.load 1 false (.t 4)), .none⟩, ⟨(.some 17), (.len 0 (.t 16)), .none⟩, ⟨(.some 18), (.bin .neq .num (.t 15) (.t 17)), .none⟩]) (.cond (.t 18) (.seq (.region [⟨.none, (.store 1 (.t 2) (.c (.sl 0 0 [] .z))), .none⟩, ⟨.none, (.store 1 (.t 3) (.c (.bool false))), .none⟩]) .ret) .skip)) (.region [⟨(.some 19), (.load 1 false (.t 4)), .none⟩, ⟨(.some 20), (.load 3 true (.t 7)), .none⟩, ⟨(.some 21), (.bslice 3 1 [(.int .u64 0), (.str (ByteArray.mk (Array.mk []))), (.int .i64 0)] [(0, (3, (.t 20)))]), .none⟩, ⟨(.some 22), (.append 3 32 (.t 19) (.t 21)), .none⟩, ⟨.none, (.store 1 (.t 4) (.t 22)), .none⟩])))
def tdTl : ACode := (.seq (.seq (.region [⟨(.some 12), (.mv (.t 5)), .none⟩]) (.block 0 (.range (.t 12) [13, 14] (.seq (.region [⟨(.some 6), (.mv (.t 13)), .none⟩]) (.region [⟨(.some 7), (.alloc [(.int .u64 0), (.str (ByteArray.mk (Array.mk []))), (.int .i64 0)]), .none⟩, ⟨.none, (.store 3 (.t 7) (.t 14)), .none⟩])) (.block 1 (.seq (.seq (.region [⟨(.some 15), (.mv (.t 6)), .none⟩, ⟨(.some 16), (.load 1 false (.t 4)), .none⟩, ⟨(.some 17), (.len 0 (.t 16)), .none⟩, ⟨(.some 18), (.bin .neq .num (.t 15) (.t 17)), .none⟩]) (.cond (.t 18) (.seq (.region [⟨.none, (.store 1 (.t 2) (.c (.sl 0 0 [] .z))), .none⟩, ⟨.none, (.store 1 (.t 3) (.c (.bool false))), .none⟩]) .ret) .skip)) (.region [⟨(.some 19), (.load 1 false (.t 4)), .none⟩, ⟨(.some 20), (.load 3 true (.t 7)), .none⟩, ⟨(.some 21), (.bslice 3 1 [(.int .u64 0), (.str (ByteArray.mk (Array.mk []))), (.int .i64 0)] [(0, (3, (.t 20)))]), .none⟩, ⟨(.some 22), (.append 3 32 (.t 19) (.t 21)), .none⟩, ⟨.none, (.store 1 (.t 4) (.t 22)), .none⟩])))))) (.seq (.region [⟨(.some 23), (.load 1 false (.t 4)), .none⟩, ⟨.none, (.store 1 (.t 2) (.t 23)), .none⟩, ⟨.none, (.store 1 (.t 3) (.c (.bool true))), .none⟩]) .ret))
/-- What the loop over the names keeps. -/
structure TdR (N k id : Nat) (tm : List AV) (L : List Nm) (H1 : Heap) (j : Nat) (H : Heap) : Prop where
  own : ∃ v, H[k]? = some (.cells [v]) ∧ Own H 3 v j (encs nmA (L.take j)) ∧ (∀ s n c, v ≠ .sl s n c .e) ∧ ∀ g, tokOf v = some g → N ≤ g
  keep : ∀ (i : Nat) (o : AObj), i ≠ k → H1[i]? = some o → H[i]? = some o
  len : N ≤ H.length
theorem own_app {H : Heap} {sz : Nat} {v : AV} {n : Nat} {cs : List AV} (ho : Own H sz v n cs) (L : Heap) : Own (H ++ L) sz v n cs := by
  rcases ho with h | ⟨h, g, h2, h3⟩
  · exact .inl h
  · exact .inr ⟨h, g, h2, by rw [List.getElem?_append_left (List.getElem?_eq_some_iff.1 h3).1]; exact h3⟩
theorem TdR.app {N k id : Nat} {tm : List AV} {L : List Nm} {H1 : Heap} {j : Nat} {H : Heap} (h : TdR N k id tm L H1 j H) (c : List AV) : TdR N k id tm L H1 j (H ++ [.cells c]) := by
  obtain ⟨⟨v, hv, ho, hne, hg⟩, hkeep, hlen⟩ := h
  have up : Still H (H ++ [.cells c]) := Still.app _ _
  exact ⟨⟨v, up _ _ hv, own_app ho _, hne, hg⟩, fun i o hi h => up _ _ (hkeep i o hi h), by simp; omega⟩
theorem own_form3 {H : Heap} {sz : Nat} {v : AV} {n : Nat} {cs : List AV} (ho : Own H sz v n cs) : ∃ s tk, v = .sl s n cs tk ∧ (n ≠ 0 → s = sz) ∧ (n ≠ 0 → ∃ g, tk = .own g) := by
  rcases ho with ⟨h | h, hn, hc⟩ | ⟨hn, g, h, _⟩
  · exact ⟨_, _, h, fun h => absurd hn h, fun h => absurd hn h⟩
  · exact ⟨_, _, h, fun h => rfl, fun h => absurd hn h⟩
  · exact ⟨_, _, h, fun _ => rfl, fun _ => ⟨g, rfl⟩⟩
theorem td_round {N k id : Nat} {tm : List AV} {L : List Nm} {H1 : Heap} {E : Env} (ha : Ag 24 tm E) (E4 : E 4 = .ptr k 0) (hN : N = H1.length) (hk : k < N) (hki : k ≠ id) (hlo : H1[id]? = some (.loop 0 .normal tm [13, 14] tdAs tdBd)) (hL : L.length ≤ 100000)
    (j : Nat) (x : Nm) (hx : L[j]? = some x) (H : Heap) (hR : TdR N k id tm L H1 j H) :
    ∃ H', (cbL tab).yl id [.int .i64 (j : Nat), .agg (nmA x)] H = some (.ret (.bool true), H') ∧ TdR N k id tm L H1 (j + 1) H' := by
  obtain ⟨⟨v, hv, ho, hne, hg⟩, hkeep, hlen⟩ := hR
  have hjl := (List.getElem?_eq_some_iff.1 hx).1
  have hloH := hkeep id _ (fun e => hki e.symm) hlo
  have key := yl_wp (tab := tab) (id := id) (P := fun b H' => b = true ∧ TdR N k id tm L H1 (j + 1) H') (args := [.int .i64 (j : Nat), .agg (nmA x)]) (H := H) (readLoop_of hloH) ha rfl (by decide) (by decide) (by decide) (by decide) (by decide) ?_
  · obtain ⟨b, H', k1, rfl, k2⟩ := key
    exact ⟨H', k1, k2⟩
  unfold tdAs nmA
  have g0 : ∀ (L : List AObj), (H ++ L)[H.length]? = L[0]? := fun L => by rw [List.getElem?_append_right (by omega)]; congr 1; omega
  have s0 : ∀ (L : List AObj) (o : AObj), (H ++ L).set H.length o = H ++ L.set 0 o := fun L o => by rw [List.set_append_right _ _ (by omega)]; congr 2; omega
  simp (disch := omega) only [wk, avalE, aactE, evPE, boundE, asNat, bv_seql cellsEq_ii, bv_sneqd cellsEq_ii, readC, allOne, fillL, resE, tupled, ↓reduceIte, Nat.reduceEqDiff, Int.reduceEq, Int.reduceLT, Int.reduceLE, Nat.reduceAdd, Nat.reduceMul, Nat.reduceLT, Nat.reduceLeDiff, reduceCtorEq, updPs_cons, updPs_nil, g0, s0]
  have up : Still H (H ++ [.cells (nmA x)]) := Still.app _ _
  have hv2 := up _ _ hv
  have hlo2 := up _ _ hloH
  have ho2 := own_app ho [.cells (nmA x)]
  have hx2 : (H ++ [.cells (nmA x)])[H.length]? = some (.cells (nmA x)) := g0 _
  have hkp2 : ∀ (i : Nat) (o : AObj), i ≠ k → H1[i]? = some o → (H ++ [.cells (nmA x)])[i]? = some o := fun i o hi h => up _ _ (hkeep i o hi h)
  have hln2 : N ≤ (H ++ [AObj.cells (nmA x)]).length := by simp; omega
  have hnid : H.length ≠ id := fun e => by rw [← e] at hloH; have := (List.getElem?_eq_some_iff.1 hloH).1; omega
  have hnk : H.length ≠ k := by omega
  have hidl := (List.getElem?_eq_some_iff.1 hloH).1
  unfold nmA at hv2 hlo2 ho2 hx2 hkp2 hln2
  generalize hHa : H ++ [AObj.cells [.int .u64 x.key, .str (bs x.name), .int .i64 x.inode]] = Ha at *
  generalize hq : H.length = q at *
  clear g0 s0 up hv ho hkeep hloH hlen hHa
  refine ⟨rfl, rfl, _, _, _, _, _, readLoop_of hlo2, ?_⟩
  unfold tdBd
  obtain ⟨sv, tv, rfl, w1, w2⟩ := own_form3 ho2
  have kk : ∀ o, (Ha.set id o)[k]? = some (.cells [.sl sv j (encs nmA (L.take j)) tv]) := fun o => by rw [set_ne (fun e => hki e.symm)]; exact hv2
  have kx : ∀ o, (Ha.set id o)[q]? = some (.cells [.int .u64 x.key, .str (bs x.name), .int .i64 x.inode]) := fun o => by rw [set_ne (fun e => hnid e.symm)]; exact hx2
  have ho1 : ∀ o, Own (Ha.set id o) 3 (.sl sv j (encs nmA (L.take j)) tv) j (encs nmA (L.take j)) := fun o => ho2.set hlo2 (by intro s e; cases e)
  simp (disch := omega) only [wk, avalE, aactE, evPE, boundE, asNat, bv_seql cellsEq_ii, bv_sneqd cellsEq_ii, readC, allOne, fillL, resE, tupled, ↓reduceIte, Nat.reduceEqDiff, Int.reduceEq, Int.reduceLT, Int.reduceLE, Nat.reduceAdd, Nat.reduceMul, Nat.reduceLT, Nat.reduceLeDiff, reduceCtorEq, E4, kk, kx, kemp]
  refine runX_app (ho1 _) (by omega) (by omega) (by omega) (by omega) rfl rfl (fun H2 q1 q2 q3 => ?_)
  have k2 := q2.cells (ho1 _) rfl (kk _) (by intro s e; cases e)
  have i2 := q2.cells (ho1 _) rfl (id := id) (set_eq hlo2) (by intro s e; cases e)
  have et : encs nmA (L.take j) ++ [.int .u64 x.key, .str (bs x.name), .int .i64 x.inode] = encs nmA (L.take (j + 1)) := by rw [List.take_add_one, hx, encs_append]; rfl
  rw [et] at q1 ⊢
  simp (disch := omega) only [wk, avalE, aactE, evPE, boundE, asNat, bv_seql cellsEq_ii, bv_sneqd cellsEq_ii, readC, allOne, fillL, resE, tupled, ↓reduceIte, Nat.reduceEqDiff, Int.reduceEq, Int.reduceLT, Int.reduceLE, Nat.reduceAdd, Nat.reduceMul, Nat.reduceLT, Nat.reduceLeDiff, reduceCtorEq, E4, k2]
  have i3 := fun o => (show (H2.set k o)[id]? = H2[id]? from set_ne hki).trans i2
  refine ⟨rfl, _, _, _, _, _, _, readLoop_of (i3 _), rfl, ⟨.sl 3 (j + 1) (encs nmA (L.take (j + 1))) (.own (Ha.set id (.loop 1 .normal tm [13, 14] tdAs tdBd)).length), ?_, ?_, ?_, ?_⟩, ?_, ?_⟩
  · rw [set_ne (fun e => hki e.symm)]; exact set_eq k2
  · exact (q1.set k2 (by intro s e; cases e)).set (i3 _) (by intro s e; cases e)
  · intro s n c e; cases e
  · intro g hg'; cases hg'; rw [List.length_set]; exact hln2
  · intro i o hi ho'
    by_cases hii : i = id
    · subst hii
      rw [hlo] at ho'
      cases ho'
      exact set_eq (i3 _)
    · rw [set_ne (fun e => hii e.symm), set_ne (fun e => hi e.symm)]
      refine q2 i o (by rw [set_ne (fun e => hii e.symm)]; exact hkp2 i o hi ho') (fun e => ?_)
      have := hg i e
      have := (List.getElem?_eq_some_iff.1 ho').1
      omega
  · simp only [List.length_set] at q3 ⊢; omega
theorem td_tail {G : Heap} {L : List Nm} (hL : L.length ≤ 100000) {s : Nat} {tk : Tk} (hs : L ≠ [] → s = 3) {b k k2 k3 : Nat} (hb : G[b]? = some (.cells [.sl s L.length (encs nmA L) tk])) (hk : G[k]? = some (.cells [.sl 0 0 [] .z]))
    (hk2 : G[k2]? = some (.cells [.sl 0 0 [] .z])) (hk3 : G[k3]? = some (.cells [.bool false])) (n1 : k ≠ k2) (n2 : k ≠ k3) (n3 : k2 ≠ k3) (n4 : k ≠ b)
    {E : Env} (E2 : E 2 = .ptr k2 0) (E3 : E 3 = .ptr k3 0) (E4 : E 4 = .ptr k 0) (E5 : E 5 = .fn 138 [.ptr b 0]) :
    Ret (cbL tab) none 24 (Am.Ends tab [(.cell 2 1 false), (.cell 3 1 false)] (fun o H' => (∃ sz t, o = .ret (.tup [.sl sz L.length (encs nmA L) t, .bool true]) ∧ (L ≠ [] → sz = 3)) ∧ ∀ (i : Nat) (o : AObj), i ≠ k → i ≠ k2 → i ≠ k3 → G[i]? = some o → H'[i]? = some o)) [.code tdTl] .normal E [] G := by
  have lt := fun {i : Nat} {o : AObj} (h : G[i]? = some o) => (List.getElem?_eq_some_iff.1 h).1
  have b1 := lt hb
  have b2 := lt hk
  have b3 := lt hk2
  have b4 := lt hk3
  unfold tdTl
  simp (disch := omega) only [wk, avalE, aactE, evPE, boundE, asNat, bv_seql cellsEq_ii, bv_sneqd cellsEq_ii, readC, allOne, fillL, resE, tupled, ↓reduceIte, Nat.reduceEqDiff, Int.reduceEq, Int.reduceLT, Int.reduceLE, Nat.reduceAdd, Nat.reduceMul, Nat.reduceLT, Nat.reduceLeDiff, reduceCtorEq, E5]
  refine ret_range (f := 138) (caps := [.ptr b 0]) (by simp only [en, ↓reduceIte, Nat.reduceEqDiff, evE_t]) (fun tm ha => ?_)
  have up1 : ∀ (i : Nat) (o : AObj), G[i]? = some o → (G ++ [.defd, .loop 0 .normal tm [13, 14] tdAs tdBd])[i]? = some o := fun i o h => by rw [List.getElem?_append_left (lt h)]; exact h
  have l1 : (G ++ [.defd, .loop 0 .normal tm [13, 14] tdAs tdBd])[G.length + 1]? = some (.loop 0 .normal tm [13, 14] tdAs tdBd) := by simp
  have d1 : (G ++ [.defd, .loop 0 .normal tm [13, 14] tdAs tdBd])[G.length]? = some .defd := by simp
  have m1 : (G ++ [AObj.defd, AObj.loop 0 .normal tm [13, 14] tdAs tdBd]).length = G.length + 2 := by simp
  obtain ⟨o, H2, q1, rfl, hR⟩ := told1_ic (fun j H => TdR (G.length + 2) k (G.length + 1) tm L (G ++ [.defd, .loop 0 .normal tm [13, 14] tdAs tdBd]) j H) (G.length + 1) b L hL s tk hs (fun j H c h => h.app c)
    (fun H j x hx hR => td_round ha (by simp only [en, ↓reduceIte, Nat.reduceEqDiff, E4]) m1.symm (by omega) (by omega) l1 hL j x hx H hR)
    (G ++ [.defd, .loop 0 .normal tm [13, 14] tdAs tdBd]) ⟨⟨_, up1 _ _ hk, .inl ⟨.inl rfl, rfl, rfl⟩, (by intro s n c e; cases e), (by intro g e; cases e)⟩, fun _ _ _ h => h, by rw [m1]; exact Nat.le_refl _⟩ (up1 _ _ hb)
  obtain ⟨⟨v, hv, ho, hne, _⟩, hkeep, hlen2⟩ := hR
  have l2 := hkeep _ _ (by omega) l1
  have d2 := hkeep _ _ (by omega) d1
  have e2 := hkeep _ _ (by omega) (up1 _ _ hk2)
  have e3 := hkeep _ _ (by omega) (up1 _ _ hk3)
  have kp : ∀ (i : Nat) (o : AObj), i ≠ k → G[i]? = some o → H2[i]? = some o := fun i o hi h => hkeep i o hi (up1 i o h)
  refine ⟨_, H2, _, _, _, _, _, _, q1, readLoop_of l2, by decide, rfl, ?_⟩
  change Ret _ _ _ _ _ _ _ _ (H2.set (G.length + 1) (.loop 3 .normal tm [13, 14] tdAs tdBd))
  rw [List.take_of_length_le (Nat.le_refl _)] at ho
  obtain ⟨s', t', rfl, hs', _⟩ := own_form3 ho
  have s0 : ∀ lo i (q : AObj), H2[i]? = some q → i ≠ G.length + 1 → (H2.set (G.length + 1) lo)[i]? = some q := fun lo i q hq hne => by rw [set_ne (fun e => hne e.symm)]; exact hq
  have v3 := s0 (.loop 3 .normal tm [13, 14] tdAs tdBd) _ _ hv (by omega)
  have d3 := s0 (.loop 3 .normal tm [13, 14] tdAs tdBd) _ _ d2 (by omega)
  have f2 := s0 (.loop 3 .normal tm [13, 14] tdAs tdBd) _ _ e2 (by omega)
  have f3 := s0 (.loop 3 .normal tm [13, 14] tdAs tdBd) _ _ e3 (by omega)
  have kp3 : ∀ (i : Nat) (o : AObj), i ≠ k → G[i]? = some o → (H2.set (G.length + 1) (.loop 3 .normal tm [13, 14] tdAs tdBd))[i]? = some o := fun i o hi h => s0 _ _ _ (kp i o hi h) (by have := lt h; omega)
  generalize hH3 : H2.set (G.length + 1) (.loop 3 .normal tm [13, 14] tdAs tdBd) = H3 at v3 d3 f2 f3 kp3 ⊢
  clear hH3 q1 l2 d2 hv ho hkeep s0 kp e2 e3 hne
  have x1 : ∀ o, (H3.set k2 o)[k3]? = some (.cells [.bool false]) := fun o => (set_ne n3).trans f3
  have x2 : ∀ o, (H3.set k2 o)[k2]? = some o := fun o => set_eq f2
  have x3 : ∀ o o', ((H3.set k2 o).set k3 o')[k2]? = some o := fun o o' => (set_ne (fun e => n3 e.symm)).trans (x2 o)
  have x4 : ∀ o o', ((H3.set k2 o).set k3 o')[k3]? = some o' := fun o o' => set_eq (x1 o)
  have x5 : ∀ o o', ((H3.set k2 o).set k3 o')[G.length]? = some .defd := fun o o' => by rw [set_ne (by omega), set_ne (by omega)]; exact d3
  simp (disch := omega) only [wk, avalE, aactE, evPE, boundE, asNat, bv_seql cellsEq_ii, bv_sneqd cellsEq_ii, readC, allOne, fillL, resE, tupled, ↓reduceIte, Nat.reduceEqDiff, Int.reduceEq, Int.reduceLT, Int.reduceLE, Nat.reduceAdd, Nat.reduceMul, Nat.reduceLT, Nat.reduceLeDiff, reduceCtorEq, E2, E3, E4, v3, f2, f3, x1, x2, x3, x4]
  rw [ends_mark (x5 _ _)]
  have x6 : ∀ o o', (((H3.set k2 o).set k3 o').set G.length .dead)[k2]? = some o := fun o o' => (set_ne (by omega)).trans (x3 o o')
  have x7 : ∀ o o', (((H3.set k2 o).set k3 o').set G.length .dead)[k3]? = some o' := fun o o' => (set_ne (by omega)).trans (x4 o o')
  simp (disch := omega) only [wk, avalE, aactE, evPE, boundE, asNat, bv_seql cellsEq_ii, bv_sneqd cellsEq_ii, readC, allOne, fillL, resE, tupled, ↓reduceIte, Nat.reduceEqDiff, Int.reduceEq, Int.reduceLT, Int.reduceLE, Nat.reduceAdd, Nat.reduceMul, Nat.reduceLT, Nat.reduceLeDiff, reduceCtorEq, E2, E3, x6, x7]
  refine ⟨⟨s', t', rfl, fun h => hs' (fun e => h (List.eq_nil_of_length_eq_zero e))⟩, fun i o h1 h2 h3 h => ?_⟩
  have := lt h
  rw [set_ne (by omega), set_ne (fun e => h3 e.symm), set_ne (fun e => h2 e.symm)]
  exact kp3 i o h1 h
theorem fnil {xo yo : X} {g : FuncId} {cs : List AV} : binV .eql .func xo yo (.fn g cs) .nilf = some (.bool false) := rfl
theorem told_ic {H : Heap} {a : Nat} {p : List UInt8} {m : Int} {s : St} (hs : Sat H a p m s) (hl : s.told.length ≤ 100000) :
    ∃ H' sz t, (cbL tab).ic 48 [.ptr a 0] H = some (.ret (.tup [.sl sz s.told.length (encs nmA s.told) t, .bool true]), H') ∧ (s.told ≠ [] → sz = 3) ∧ Still H H' := by
  have hs2 := hs.still (Still.app H [.cells [.sl 0 0 [] .z], .cells [.bool false], .cells [.sl 0 0 [] .z]])
  obtain ⟨sz, tk, h1, _, h2⟩ := told_px hs2
  have len : (H ++ [AObj.cells [.sl 0 0 [] .z], .cells [.bool false], .cells [.sl 0 0 [] .z]]).length = H.length + 3 := by simp
  rw [len] at h2
  have g : ∀ (j : Nat), (H ++ [AObj.cells [.sl 0 0 [] .z], .cells [.bool false], .cells [.sl 0 0 [] .z], .cells [.sl sz s.told.length (encs nmA s.told) tk]])[H.length + j]? = [AObj.cells [.sl 0 0 [] .z], .cells [.bool false], .cells [.sl 0 0 [] .z], .cells [.sl sz s.told.length (encs nmA s.told) tk]][j]? := fun j => by rw [List.getElem?_append_right (by omega)]; congr 1; omega
  have key : ∃ o H', (cbL tab).ic 48 [.ptr a 0] H = some (o, H') ∧ (∃ sz t, o = .ret (.tup [.sl sz s.told.length (encs nmA s.told) t, .bool true]) ∧ (s.told ≠ [] → sz = 3)) ∧ ∀ (i : Nat) (o : AObj), i ≠ H.length + 2 → i ≠ H.length → i ≠ H.length + 1 → (H ++ [AObj.cells [.sl 0 0 [] .z], .cells [.bool false], .cells [.sl 0 0 [] .z], .cells [.sl sz s.told.length (encs nmA s.told) tk]])[i]? = some o → H'[i]? = some o := by
    refine ic_wp (fi := c48) rfl rfl (by simp [c48]) (by decide) ?_
    show Ret (cbL tab) none 24 (Am.Ends tab [(.cell 2 1 false), (.cell 3 1 false)] _) [.code (.seq _ (.seq _ (.seq _ (.seq _ tdTl))))] .normal (argE [.ptr a 0]) [] H
    simp (disch := omega) only [wk, avalE, aactE, evPE, boundE, asNat, bv_seql cellsEq_ii, bv_sneqd cellsEq_ii, readC, allOne, fillL, resE, tupled, ↓reduceIte, Nat.reduceEqDiff, Int.reduceEq, Int.reduceLT, Int.reduceLE, Nat.reduceAdd, Nat.reduceMul, Nat.reduceLT, Nat.reduceLeDiff, reduceCtorEq, h2, fnil, in_none, runE_none ll_none, in_Call, runE_none ll_Call, in_ends, runE_none ll_ends, in_Take, runE_none ll_Take, in_Seek, runE_none ll_Seek, in_Told, runE_none ll_Told, in_Over, runE_none ll_Over, in_Copy, runE_none ll_Copy, in_New, runE_none ll_New, in_told, runE_none ll_told, in_same, runE_none ll_same, List.append_assoc]
    refine td_tail (tk := tk) hl h1 (b := H.length + 3) (k := H.length + 2) (k2 := H.length) (k3 := H.length + 1) ?_ ?_ ?_ ?_ (by omega) (by omega) (by omega) (by omega) (by simp only [en, ↓reduceIte, Nat.reduceEqDiff]) (by simp only [en, ↓reduceIte, Nat.reduceEqDiff]) (by simp only [en, ↓reduceIte, Nat.reduceEqDiff]) (by simp only [en, ↓reduceIte, Nat.reduceEqDiff])
    · exact g 3
    · exact g 2
    · exact g 0
    · exact g 1
  obtain ⟨o, H', k1, ⟨sz', t', rfl, k2⟩, k3⟩ := key
  refine ⟨H', sz', t', k1, k2, fun i o h => ?_⟩
  have := (List.getElem?_eq_some_iff.1 h).1
  exact k3 i o (by omega) (by omega) (by omega) (by rw [List.getElem?_append_left this]; exact h)
end Go.Proofs.Ytailfegmnkldoaa
