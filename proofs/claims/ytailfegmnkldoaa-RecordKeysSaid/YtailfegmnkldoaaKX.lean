/- BYTES THAT ARE WRITTEN. No condition but those stated. -/
import Derived.Test.YtailfegmnkldoaaKW
import Derived.Test.YtailfegmnkldoaaBG1
set_option linter.unusedSimpArgs false
set_option linter.unusedVariables false
set_option linter.unusedSectionVars false
namespace Go.Proofs.Ytailfegmnkldoaa
open Go Go.Am Go.Rec
set_option maxHeartbeats 4000000
set_option maxRecDepth 10000
theorem ppn {xo yo : X} {a o : Nat} : binV .eql .ptr xo yo (.ptr a o) .nilp = some (.bool false) := rfl
theorem in_none {args : List AV} {H : Heap} : pcx (cbL tab) 184 args H = none := pcx_none rfl (pc_none (fi := c184) rfl rfl)
theorem ll_none : (cbL tab).lent 184 = false := rfl
theorem none_ic {H : Heap} {a : Nat} {v : V4} {l : AV} {m : Int} (h : H[a]? = some (.cells (vA v [l, .int .i64 m, .bool true]))) : (cbL tab).ic 184 [.ptr a 0] H = some (.ret (.bool false), H) := by
  unfold vA at h
  have : ∃ o H', (cbL tab).ic 184 [.ptr a 0] H = some (o, H') ∧ o = .ret (.bool false) ∧ H' = H := by
    refine ic_wp (fi := c184) rfl rfl (by simp [c184]) (by decide) ?_
    unfold c184
    simp (disch := omega) only [wk, avalE, aactE, evPE, boundE, asNat, bv_seql cellsEq_ii, bv_sneqd cellsEq_ii, readC, allOne, fillL, resE, tupled, ↓reduceIte, Nat.reduceEqDiff, Int.reduceEq, Int.reduceLT, Int.reduceLE, Nat.reduceAdd, Nat.reduceMul, Nat.reduceLT, Nat.reduceLeDiff, reduceCtorEq, ppn, h]
  obtain ⟨o, H', h, rfl, rfl⟩ := this
  exact h
theorem in_whole {args : List AV} {H : Heap} : pcx (cbL tab) 186 args H = none := pcx_none rfl (pc_none (fi := c186) rfl rfl)
theorem ll_whole : (cbL tab).lent 186 = false := rfl
theorem whole_ic (n : Nat) (cs : List AV) (tk : Tk) (H : Heap) : (cbL tab).ic 186 [.sl 1 n cs tk] H = some (.ret (.fn 196 [.ptr H.length 0]), H ++ [.cells [.sl 1 n cs tk]]) := by
  have : ∃ o H', (cbL tab).ic 186 [.sl 1 n cs tk] H = some (o, H') ∧ o = .ret (.fn 196 [.ptr H.length 0]) ∧ H' = H ++ [.cells [.sl 1 n cs tk]] := by
    refine ic_wp (fi := c186) rfl rfl (by simp [c186]) (by decide) ?_
    unfold c186
    simp (disch := omega) only [wk, avalE, aactE, evPE, boundE, asNat, bv_seql cellsEq_ii, bv_sneqd cellsEq_ii, readC, allOne, fillL, resE, tupled, ↓reduceIte, Nat.reduceEqDiff, Int.reduceEq, Int.reduceLT, Int.reduceLE, Nat.reduceAdd, Nat.reduceMul, Nat.reduceLT, Nat.reduceLeDiff, reduceCtorEq]
  obtain ⟨o, H', h, rfl, rfl⟩ := this
  exact h
def stAt (v : V4) (L : List UInt8) : Nat → V4
  | 0 => v
  | j + 1 => takeM (stAt v L j) (wordM (chunkL L j))
theorem word_ok {L : List UInt8} (h : L.length ≤ 8) : U64 (wordM L) := ⟨wordM_nonneg L, wordM_u64 h⟩
theorem chunk_ok (L : List UInt8) (j : Nat) : U64 (wordM (chunkL L j)) := word_ok (by unfold chunkL; rw [List.length_take]; omega)
theorem stAt_ok {v : V4} (h : v.ok) (L : List UInt8) : ∀ j, (stAt v L j).ok
  | 0 => h
  | j + 1 => takeM_ok (stAt_ok h L j) (chunk_ok L j)
theorem conc2 {A B : List UInt8} {s1 s2 : Nat} {t1 t2 t3 : Tk} (h1 : A ≠ [] → s1 = 1) (h2 : B ≠ [] → s2 = 1) (hne : A ++ B ≠ []) (hl : A.length + B.length ≤ 1000000) (H : Heap) :
    pcx (cbL tab) 185 [.sl 1 2 [.sl s1 A.length (encs byA A) t1, .sl s2 B.length (encs byA B) t2] t3] H = some (.fresh 1 (A ++ B).length (encs byA (A ++ B))) := by
  have lb : ∀ L : List UInt8, (encs byA L).length = L.length := fun L => by rw [encs_length (k := 1), Nat.mul_one]
  refine pcx_N rfl (pc_con (g := concC) rfl rfl ?_)
  have r1 : (A.length = 0 ∨ s1 = 1) ∧ A.length * 1 ≤ (encs byA A).length := ⟨by by_cases h : A = []; exact .inl (by rw [h]; rfl); exact .inr (h1 h), by rw [lb]; omega⟩
  have r2 : (B.length = 0 ∨ s2 = 1) ∧ B.length * 1 ≤ (encs byA B).length := ⟨by by_cases h : B = []; exact .inl (by rw [h]; rfl); exact .inr (h2 h), by rw [lb]; omega⟩
  have e1 : (encs byA A).take (A.length * 1) = encs byA A := List.take_of_length_le (by rw [lb]; omega)
  have e2 : (encs byA B).take (B.length * 1) = encs byA B := List.take_of_length_le (by rw [lb]; omega)
  have hr : rowsA [.sl s1 A.length (encs byA A) t1, .sl s2 B.length (encs byA B) t2] = some [encs byA A, encs byA B] := by
    simp only [rowsA, r1, r2, if_true, and_self, Option.map_some, e1, e2]
  have hf : ([encs byA A, encs byA B] : List (List AV)).flatten = encs byA (A ++ B) := by rw [encs_append]; simp
  unfold concC
  have ht : ([.sl s1 A.length (encs byA A) t1, .sl s2 B.length (encs byA B) t2] : List AV).take 2 = [.sl s1 A.length (encs byA A) t1, .sl s2 B.length (encs byA B) t2] := rfl
  simp only [ht, hr, hf]
  have hn : (encs byA (A ++ B)).length = (A ++ B).length := lb _
  have hz : ¬ encs byA (A ++ B) = [] := fun h => by rw [h] at hn; exact hne (List.eq_nil_of_length_eq_zero hn.symm)
  have hc : 0 < 2 ∧ 2 ≤ ([.sl s1 A.length (encs byA A) t1, .sl s2 B.length (encs byA B) t2] : List AV).length ∧ 2 ≤ 4294967296 ∧ (encs byA (A ++ B)).length ≤ 4294967296 := ⟨by omega, by simp, by omega, by rw [hn, List.length_append]; omega⟩
  rw [if_pos hc, if_neg hz, hn, Nat.div_one]
def wrAs : ACode := (.region [⟨(.some 6), (.mv (.t 27)), .none⟩])
def wrBd : ACode := (.block 1 (.region [⟨(.some 28), (.load 1 false (.t 2)), .none⟩, ⟨(.some 29), (.nilck (.t 28)), .none⟩, ⟨(.some 30), (.fld 0 (.t 29)), .none⟩, ⟨(.some 31), (.mv (.t 6)), .none⟩, ⟨(.some 32), (.callf 187 [(.t 30), (.t 31)]), .none⟩]))
structure WrR (a b N : Nat) (v : V4) (L : List UInt8) (rest : List AV) (tm : List AV) (j : Nat) (G : Heap) : Prop where
  s : G[a]? = some (.cells (vA (stAt v L j) rest))
  b : G[b]? = some (.cells [.ptr a 0])
  d : G[N]? = some .defd
  lo : G[N + 1]? = some (.loop 0 .normal tm [27] wrAs wrBd)
theorem wr_round {a b N : Nat} (hab : a < N) (hbN : b < N) (hne : a ≠ b) {v : V4} (hv : v.ok) {L : List UInt8} {rest : List AV} {tm : List AV} {E : Env} (ha : Ag 44 tm E) (E2 : E 2 = .ptr b 0)
    (G : Heap) (j : Nat) (hR : WrR a b N v L rest tm j G) :
    ∃ G', (cbL tab).yl (N + 1) [.int .u64 (wordM (chunkL L j))] G = some (.ret (.bool true), G') ∧ WrR a b N v L rest tm (j + 1) G' ∧ ∀ (i : Nat) (o : AObj), N + 2 ≤ i → G[i]? = some o → G'[i]? = some o := by
  obtain ⟨hs, hb, hd, hlo⟩ := hR
  have key := yl_wp (tab := tab) (id := N + 1) (P := fun c G' => c = true ∧ WrR a b N v L rest tm (j + 1) G' ∧ ∀ (i : Nat) (o : AObj), N + 2 ≤ i → G[i]? = some o → G'[i]? = some o) (args := [.int .u64 (wordM (chunkL L j))]) (H := G) (readLoop_of hlo) ha rfl (by decide) (by decide) (by decide) (by decide) (by decide) ?_
  · obtain ⟨c, H', k1, rfl, k2⟩ := key
    exact ⟨H', k1, k2⟩
  unfold wrAs
  simp (disch := omega) only [wk, avalE, aactE, evPE, boundE, asNat, bv_seql cellsEq_ii, bv_sneqd cellsEq_ii, readC, allOne, fillL, resE, tupled, ↓reduceIte, Nat.reduceEqDiff, Int.reduceEq, Int.reduceLT, Int.reduceLE, Nat.reduceAdd, Nat.reduceMul, Nat.reduceLT, Nat.reduceLeDiff, reduceCtorEq, updPs_cons, updPs_nil]
  refine ⟨rfl, rfl, _, _, _, _, _, readLoop_of hlo, ?_⟩
  change Ret _ _ _ _ _ _ _ _ (G.set (N + 1) (.loop 1 .normal tm [27] wrAs wrBd))
  have gs : ∀ i, i ≠ N + 1 → ∀ o, (G.set (N + 1) o)[i]? = G[i]? := fun i h o => set_ne (fun e => h e.symm)
  have gl : ∀ o, (G.set (N + 1) o)[N + 1]? = some o := fun o => set_eq hlo
  generalize hG1 : G.set (N + 1) (.loop 1 .normal tm [27] wrAs wrBd) = G1
  have b0 : G1[a]? = some (.cells (vA (stAt v L j) rest)) := by rw [← hG1, gs a (by omega)]; exact hs
  have b1 : G1[b]? = some (.cells [.ptr a 0]) := by rw [← hG1, gs b (by omega)]; exact hb
  have b2 : G1[N]? = some .defd := by rw [← hG1, gs N (by omega)]; exact hd
  have b3 : G1[N + 1]? = some (.loop 1 .normal tm [27] wrAs wrBd) := by rw [← hG1]; exact gl _
  have b4 : ∀ (i : Nat) (o : AObj), N + 2 ≤ i → G[i]? = some o → G1[i]? = some o := fun i o h1 h2 => by rw [← hG1, gs i (by omega)]; exact h2
  clear hG1 gs gl hs hb hd hlo
  obtain ⟨G2, t1, t2, t3⟩ := takes_ic (stAt_ok hv L j) b0 (chunk_ok L j)
  have w3 := t3.2 (N + 1) _ (by omega) b3
  unfold wrBd
  have b0' := b0
  unfold vA at b0'
  simp (disch := omega) only [wk, avalE, aactE, evPE, boundE, asNat, bv_seql cellsEq_ii, bv_sneqd cellsEq_ii, readC, allOne, fillL, resE, tupled, ↓reduceIte, Nat.reduceEqDiff, Int.reduceEq, Int.reduceLT, Int.reduceLE, Nat.reduceAdd, Nat.reduceMul, Nat.reduceLT, Nat.reduceLeDiff, reduceCtorEq, E2, b1, b0', t1, in_takes, runE_none ll_takes]
  have gs : ∀ i, i ≠ N + 1 → ∀ o, (G2.set (N + 1) o)[i]? = G2[i]? := fun i h o => set_ne (fun e => h e.symm)
  refine ⟨rfl, _, _, _, _, _, _, readLoop_of w3, rfl, ⟨?_, ?_, ?_, ?_⟩, ?_⟩
  · rw [gs a (by omega)]; exact t2
  · rw [gs b (by omega)]; exact t3.2 b _ (fun e => hne e.symm) b1
  · rw [gs N (by omega)]; exact t3.2 N _ (by omega) b2
  · exact set_eq w3
  · intro i o h1 h2
    rw [gs i (by omega)]
    exact t3.2 i _ (by omega) (b4 i o h1 h2)
theorem in_write {args : List AV} {H : Heap} : pcx (cbL tab) 165 args H = none := pcx_none rfl (pc_none (fi := c165) rfl rfl)
theorem ll_write : (cbL tab).lent 165 = false := rfl
theorem write_ic {H : Heap} {a : Nat} {v : V4} (hv : v.ok) (ha : H[a]? = some (.cells (vA v [.sl 0 0 [] .z, .int .i64 0, .bool true]))) {L : List UInt8} (h0 : L ≠ []) (hL : L.length ≤ 100000) (u : Tk) :
    ∃ H' tk, (cbL tab).ic 165 [.ptr a 0, .sl 1 L.length (encs byA L) u] H = some (.ret (.int .i64 0), H') ∧ H'[a]? = some (.cells (vA (stAt v L (L.length / 8)) [.sl 1 (L.length % 8) (encs byA (L.drop (8 * (L.length / 8)))) tk, .int .i64 (L.length : Nat), .bool true])) := by
  have hlt := (List.getElem?_eq_some_iff.1 ha).1
  have lb : ∀ L : List UInt8, (encs byA L).length = L.length := fun L => by rw [encs_length (k := 1), Nat.mul_one]
  have nn := none_ic ha
  have a1 : ∀ M : List AObj, (H ++ M)[a]? = _ := fun M => (List.getElem?_append_left hlt).trans ha
  have nL := fun M => none_ic (a1 M)
  have cp : ∀ H tk, pcx (cbL tab) 185 [.sl 1 2 [.sl 0 0 [] .z, .sl 1 L.length (encs byA L) u] tk] H = some (.fresh 1 L.length (encs byA L)) := fun H tk =>
    conc2 (A := []) (B := L) (s1 := 0) (s2 := 1) (t1 := .z) (t2 := u) (t3 := tk) (fun h => absurd rfl h) (fun _ => rfl) h0 (by simp; omega) H
  have g0 : ∀ (M : List AObj), (H ++ M)[H.length]? = M[0]? := fun M => by rw [List.getElem?_append_right (by omega)]; congr 1; omega
  have gs0 : ∀ (M : List AObj) (o : AObj), ((H ++ M).set a o)[H.length]? = M[0]? := fun M o => by rw [set_ne (by omega)]; exact g0 M
  have gsa : ∀ (M : List AObj) (o : AObj), ((H ++ M).set a o)[a]? = some o := fun M o => set_eq (a1 M)
  have key : ∃ o H', (cbL tab).ic 165 [.ptr a 0, .sl 1 L.length (encs byA L) u] H = some (o, H') ∧ o = .ret (.int .i64 0) ∧ ∃ tk, H'[a]? = some (.cells (vA (stAt v L (L.length / 8)) [.sl 1 (L.length % 8) (encs byA (L.drop (8 * (L.length / 8)))) tk, .int .i64 (L.length : Nat), .bool true])) := by
    refine ic_wp (fi := c165) rfl rfl (by simp [c165]) (by decide) ?_
    unfold c165
    have a1' := a1
    unfold vA at a1'
    simp (disch := omega) only [wk, avalE, aactE, evPE, boundE, asNat, bv_seql cellsEq_ii, bv_sneqd cellsEq_ii, readC, allOne, fillL, resE, tupled, ↓reduceIte, Nat.reduceEqDiff, Int.reduceEq, Int.reduceLT, Int.reduceLE, Nat.reduceAdd, Nat.reduceMul, Nat.reduceLT, Nat.reduceLeDiff, reduceCtorEq, a1', nL, g0, gs0, gsa, cp, in_none, runE_none ll_none, Int.zero_add]
    have ga := gsa [AObj.cells [.ptr a 0]] (.cells (.int .u64 v.a :: .int .u64 v.b :: .int .u64 v.c :: .int .u64 v.d :: [.sl 0 0 [] .z, .int .i64 (L.length : Nat), .bool true]))
    have gb := gs0 [AObj.cells [.ptr a 0]] (.cells (.int .u64 v.a :: .int .u64 v.b :: .int .u64 v.c :: .int .u64 v.d :: [.sl 0 0 [] .z, .int .i64 (L.length : Nat), .bool true]))
    have glen : ((H ++ [AObj.cells [.ptr a 0]]).set a (.cells (.int .u64 v.a :: .int .u64 v.b :: .int .u64 v.c :: .int .u64 v.d :: [.sl 0 0 [] .z, .int .i64 (L.length : Nat), .bool true]))).length = H.length + 1 := by simp
    generalize hG : (H ++ [AObj.cells [.ptr a 0]]).set a (.cells (.int .u64 v.a :: .int .u64 v.b :: .int .u64 v.c :: .int .u64 v.d :: [.sl 0 0 [] .z, .int .i64 (L.length : Nat), .bool true])) = G at ga gb glen ⊢
    clear hG gsa gs0 g0 nL a1' a1 cp nn
    have wi := fun g H => whole_ic L.length (encs byA L) (.own g) H
    simp (disch := omega) only [wk, avalE, aactE, evPE, boundE, asNat, bv_seql cellsEq_ii, bv_sneqd cellsEq_ii, readC, allOne, fillL, resE, tupled, ↓reduceIte, Nat.reduceEqDiff, Int.reduceEq, Int.reduceLT, Int.reduceLE, Nat.reduceAdd, Nat.reduceMul, Nat.reduceLT, Nat.reduceLeDiff, reduceCtorEq, wi, in_whole, runE_none ll_whole, List.append_assoc]
    refine ret_range (f := 196) (caps := [.ptr (G.length + 1) 0]) (by simp only [en, ↓reduceIte, Nat.reduceEqDiff, evE_t]) (fun tm hag => ?_)
    have gl : (G ++ [AObj.tok 1, .cells [.sl 1 L.length (encs byA L) (.own (H.length + 1))]]).length = H.length + 3 := by simp [glen]
    rw [glen, gl]
    obtain ⟨X, hX⟩ : ∃ X, G ++ [AObj.tok 1, .cells [.sl 1 L.length (encs byA L) (.own (H.length + 1))]] ++ [.defd, .loop 0 .normal tm [27] wrAs wrBd] = X := ⟨_, rfl⟩
    have xlen : X.length = H.length + 5 := by rw [← hX]; simp [glen]
    have xlo : ∀ i o, G[i]? = some o → X[i]? = some o := fun i o h => by
      rw [← hX, List.append_assoc, List.getElem?_append_left (List.getElem?_eq_some_iff.1 h).1]; exact h
    have xi : ∀ i, X[G.length + i]? = [AObj.tok 1, .cells [.sl 1 L.length (encs byA L) (.own (H.length + 1))], .defd, .loop 0 .normal tm [27] wrAs wrBd][i]? := fun i => by
      rw [← hX, List.append_assoc, List.getElem?_append_right (by omega)]
      congr 1
      omega
    rw [glen] at xi
    have x2 : X[H.length + 3]? = some .defd := xi 2
    have x3 : X[H.length + 3 + 1]? = some (.loop 0 .normal tm [27] wrAs wrBd) := xi 3
    have x1 : X[H.length + 1 + 1]? = some (.cells [.sl 1 L.length (encs byA L) (.own (H.length + 1))]) := xi 1
    obtain ⟨o, H2, q1, rfl, hI⟩ := wholes1_ic (R := fun j Y => WrR a H.length (H.length + 3) v L [.sl 0 0 [] .z, .int .i64 (L.length : Nat), .bool true] tm j Y) (id := H.length + 3 + 1) (k := H.length + 1 + 1) hL rfl X
      (fun j Y Y' h hk => ⟨hk _ _ (by omega) h.s, hk _ _ (by omega) h.b, hk _ _ (by omega) h.d, hk _ _ (by omega) h.lo⟩)
      (fun Y j hj h => by
        obtain ⟨Y', z1, z2, z3⟩ := wr_round (by omega) (by omega) (by omega) hv hag (by simp only [en, ↓reduceIte, Nat.reduceEqDiff]) Y j h
        exact ⟨Y', z1, z2, fun i o h1 h2 => z3 i o (by omega) h2⟩)
      ⟨xlo _ _ ga, xlo _ _ gb, x2, x3⟩ x1
    obtain ⟨is, ib, idd, il⟩ := hI
    rw [← hX] at q1
    refine ⟨_, H2, _, _, _, _, _, _, q1, readLoop_of il, by decide, rfl, ?_⟩
    change Ret _ _ _ _ _ _ _ _ (H2.set (H.length + 3 + 1) (.loop 3 .normal tm [27] wrAs wrBd))
    have d3 : (H2.set (H.length + 3 + 1) (.loop 3 .normal tm [27] wrAs wrBd))[H.length + 3]? = some .defd := by rw [set_ne (by omega)]; exact idd
    have ds : (H2.set (H.length + 3 + 1) (.loop 3 .normal tm [27] wrAs wrBd))[a]? = some (.cells (vA (stAt v L (L.length / 8)) [.sl 0 0 [] .z, .int .i64 (L.length : Nat), .bool true])) := by rw [set_ne (by omega)]; exact is
    have db : (H2.set (H.length + 3 + 1) (.loop 3 .normal tm [27] wrAs wrBd))[H.length]? = some (.cells [.ptr a 0]) := by rw [set_ne (by omega)]; exact ib
    generalize H2.set (H.length + 3 + 1) (.loop 3 .normal tm [27] wrAs wrBd) = Y at d3 ds db ⊢
    generalize stAt v L (L.length / 8) = w at *
    clear is ib idd il q1
    have dset : ∀ o, (Y.set a o)[a]? = some o := fun o => set_eq ds
    have ddef : ∀ o, (Y.set a o)[H.length + 3]? = some .defd := fun o => (set_ne (by omega)).trans d3
    obtain ⟨tk, htail⟩ : ∃ tk, (if 8 * (L.length / 8) = 0 then AV.sl 1 L.length (encs byA L) (.own (H.length + 1)) else AV.sl 1 (L.length - 8 * (L.length / 8)) (List.drop (8 * (L.length / 8)) (encs byA L)) .ro) = .sl 1 (L.length % 8) (encs byA (L.drop (8 * (L.length / 8)))) tk := by
      have hd : List.drop (8 * (L.length / 8)) (encs byA L) = encs byA (L.drop (8 * (L.length / 8))) := by
        have := encs_drop (f := byA) (k := 1) L (8 * (L.length / 8))
        rwa [Nat.mul_one] at this
      by_cases h : 8 * (L.length / 8) = 0
      · rw [if_pos h, h, List.drop_zero, show L.length % 8 = L.length by omega]; exact ⟨_, rfl⟩
      · rw [if_neg h, hd, show L.length - 8 * (L.length / 8) = L.length % 8 by omega]; exact ⟨_, rfl⟩
    have tn : ((L.length : Int) - (L.length : Int) % 8).toNat = 8 * (L.length / 8) := by omega
    have n1 : (0 : Int) ≤ (L.length : Int) - (L.length : Int) % 8 := by omega
    have n2 : 8 * (L.length / 8) ≤ L.length := by omega
    have n3 : L.length ≤ (encs byA L).length := by rw [lb]; exact Nat.le_refl _
    have ds' := ds
    unfold vA at ds'
    simp (disch := omega) only [wk, avalE, aactE, evPE, boundE, asNat, bv_seql cellsEq_ii, bv_sneqd cellsEq_ii, readC, allOne, fillL, resE, tupled, ↓reduceIte, Nat.reduceEqDiff, Int.reduceEq, Int.reduceLT, Int.reduceLE, Nat.reduceAdd, Nat.reduceMul, Nat.reduceLT, Nat.reduceLeDiff, reduceCtorEq, ds', db, tn, n1, n2, n3, htail, dset]
    rw [ends_mark (ddef _)]
    simp (disch := omega) only [wk, avalE, aactE, evPE, boundE, asNat, bv_seql cellsEq_ii, bv_sneqd cellsEq_ii, readC, allOne, fillL, resE, tupled, ↓reduceIte, Nat.reduceEqDiff, Int.reduceEq, Int.reduceLT, Int.reduceLE, Nat.reduceAdd, Nat.reduceMul, Nat.reduceLT, Nat.reduceLeDiff, reduceCtorEq]
    exact ⟨tk, by rw [set_ne (by omega)]; exact dset _⟩
  obtain ⟨o, H', k1, rfl, tk, k2⟩ := key
  exact ⟨H', tk, k1, k2⟩
end Go.Proofs.Ytailfegmnkldoaa
