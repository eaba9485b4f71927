/- WHOLE WORDS, ONE BY ONE. No condition but those stated. -/
import Derived.Test.YtailfegmnkldoaaKC
set_option linter.unusedSimpArgs false
set_option linter.unusedVariables false
set_option linter.unusedSectionVars false
namespace Go.Proofs.Ytailfegmnkldoaa
open Go Go.Am Go.Rec
set_option maxHeartbeats 4000000
set_option maxRecDepth 10000
theorem in_chunk {args : List AV} {H : Heap} : pcx (cbL tab) 197 args H = none := pcx_none rfl (pc_none (fi := c197) rfl rfl)
theorem ll_chunk : (cbL tab).lent 197 = false := rfl
theorem chunk_ic (n : Nat) (cs : List AV) (tk : Tk) (H : Heap) : (cbL tab).ic 197 [.sl 1 n cs tk, .int .i64 8] H = some (.ret (.fn 208 [.ptr H.length 0, .ptr (H.length + 1) 0]), H ++ [.cells [.sl 1 n cs tk], .cells [.int .i64 8]]) := by
  have : ∃ o H', (cbL tab).ic 197 [.sl 1 n cs tk, .int .i64 8] H = some (o, H') ∧ o = .ret (.fn 208 [.ptr H.length 0, .ptr (H.length + 1) 0]) ∧ H' = H ++ [.cells [.sl 1 n cs tk], .cells [.int .i64 8]] := by
    refine ic_wp (fi := c197) rfl rfl (by simp [c197]) (by decide) ?_
    unfold c197
    have g1 : ∀ (c : AObj) (L : List AObj), (H ++ c :: L)[H.length + 1]? = L[0]? := fun c L => by rw [List.getElem?_append_right (by omega), show H.length + 1 - H.length = 1 by omega]; rfl
    simp (disch := omega) only [wk, avalE, aactE, evPE, boundE, asNat, bv_seql cellsEq_ii, bv_sneqd cellsEq_ii, readC, allOne, fillL, resE, tupled, ↓reduceIte, Nat.reduceEqDiff, Int.reduceEq, Int.reduceLT, Int.reduceLE, Nat.reduceAdd, Nat.reduceMul, Nat.reduceLT, Nat.reduceLeDiff, reduceCtorEq, g1, List.append_assoc]
  obtain ⟨o, H', h, rfl, rfl⟩ := this
  exact h
def whAs : ACode := (.region [⟨(.some 3), (.mv (.t 14)), .none⟩])
def whBd : ACode := (.block 1 (.seq (.region [⟨(.some 15), (.mv (.t 3)), .none⟩, ⟨(.some 16), (.callf 123 [(.t 15)]), .none⟩, ⟨(.some 4), (.mv (.t 16)), .none⟩]) (.seq (.drawn [⟨(.some 17), (.load 1 false (.t 2)), .none⟩, ⟨(.some 18), (.mv (.t 4)), .none⟩, ⟨(.some 19), (.ixa 1 (.t 18) (.c (.int .i64 0))), .none⟩, ⟨(.some 20), (.load 1 false (.t 19)), .none⟩] [⟨(.some 21), (.callv (.t 17) [(.t 20)]), .none⟩, ⟨(.some 22), (.un .not (.t 21)), .none⟩]) (.cond (.t 22) .ret .skip))))

structure InR (R : Nat → Heap → Prop) (id N : Nat) (M : Nat) (cs : List AV) (tk : Tk) (tm : List AV) (j : Nat) (G : Heap) : Prop where
  r : R j G
  y : G[N]? = some (.cells [.yld id])
  p : G[N + 1]? = some (.cells [.sl 1 (8 * M) cs tk])
  q : G[N + 2]? = some (.cells [.int .i64 8])
  d : G[N + 3]? = some .defd
  lo : G[N + 4]? = some (.loop 0 .normal tm [14] whAs whBd)
theorem chunkL_len {L : List UInt8} {j : Nat} (h : j < L.length / 8) : (chunkL L j).length = 8 := by
  unfold chunkL
  rw [List.length_take, List.length_drop]
  omega
theorem in_round {N : Nat} {R : Nat → Heap → Prop} {id : Nat} {L : List UInt8} {M : Nat} {cs : List AV} {tk : Tk} {tm : List AV} {E : Env} (hM : M = L.length / 8) (ha : Ag 23 tm E) (E2 : E 2 = .ptr N 0)
    (hext : ∀ j G G', R j G → (∀ (i : Nat) (o : AObj), i < N → G[i]? = some o → G'[i]? = some o) → R j G')
    (hstep : ∀ (G : Heap) (j : Nat), j < M → R j G → ∃ G', (cbL tab).yl id [.int .u64 (wordM (chunkL L j))] G = some (.ret (.bool true), G') ∧ R (j + 1) G' ∧ ∀ (i : Nat) (o : AObj), N ≤ i → G[i]? = some o → G'[i]? = some o)
    (G : Heap) (j : Nat) (hj : j < M) (hR : InR R id N M cs tk tm j G) :
    ∃ G', (cbL tab).yl (N + 4) [.sl 1 8 (encs byA (chunkL L j)) .ro] G = some (.ret (.bool true), G') ∧ InR R id N M cs tk tm (j + 1) G' := by
  obtain ⟨hr, hy, hp, hq, hd, hlo⟩ := hR
  have key := yl_wp (tab := tab) (id := N + 4) (P := fun b G' => b = true ∧ InR R id N M cs tk tm (j + 1) G') (args := [.sl 1 8 (encs byA (chunkL L j)) .ro]) (H := G) (readLoop_of hlo) ha rfl (by decide) (by decide) (by decide) (by decide) (by decide) ?_
  · obtain ⟨b, H', k1, rfl, k2⟩ := key
    exact ⟨H', k1, k2⟩
  unfold whAs
  simp (disch := omega) only [wk, avalE, aactE, evPE, boundE, asNat, bv_seql cellsEq_ii, bv_sneqd cellsEq_ii, readC, allOne, fillL, resE, tupled, ↓reduceIte, Nat.reduceEqDiff, Int.reduceEq, Int.reduceLT, Int.reduceLE, Nat.reduceAdd, Nat.reduceMul, Nat.reduceLT, Nat.reduceLeDiff, reduceCtorEq, updPs_cons, updPs_nil]
  refine ⟨rfl, rfl, _, _, _, _, _, readLoop_of hlo, ?_⟩
  change Ret _ _ _ _ _ _ _ _ (G.set (N + 4) (.loop 1 .normal tm [14] whAs whBd))
  have c8 := chunkL_len (by omega : j < L.length / 8)
  have hcn : chunkL L j ≠ [] := fun e => by rw [e] at c8; simp at c8
  have lay := fun H => lay_px (chunkL L j) 1 .ro H (by omega) rfl rfl
  have lm : layM (chunkL L j) = [wordM (chunkL L j)] := by
    rw [layM_ne hcn, List.take_of_length_le (by omega), List.drop_eq_nil_of_le (by omega)]
    simp [layM]
  have lp : ∀ H, pcx (cbL tab) 123 [.sl 1 8 (encs byA (chunkL L j)) .ro] H = some (.fresh 1 1 [.int .u64 (wordM (chunkL L j))]) := fun H => by
    have := lay H
    rw [c8, lm] at this
    exact this
  have hlt := (List.getElem?_eq_some_iff.1 hlo).1
  have gs : ∀ i, i ≠ N + 4 → ∀ o, (G.set (N + 4) o)[i]? = G[i]? := fun i h o => set_ne (fun e => h e.symm)
  have gl : ∀ o, (G.set (N + 4) o)[N + 4]? = some o := fun o => set_eq hlo
  generalize hG1 : G.set (N + 4) (.loop 1 .normal tm [14] whAs whBd) = G1
  have b0 : G1[N]? = some (.cells [.yld id]) := by rw [← hG1, gs N (by omega)]; exact hy
  have b1 : G1[N + 1]? = some (.cells [.sl 1 (8 * M) cs tk]) := by rw [← hG1, gs (N + 1) (by omega)]; exact hp
  have b2 : G1[N + 2]? = some (.cells [.int .i64 8]) := by rw [← hG1, gs (N + 2) (by omega)]; exact hq
  have b3 : G1[N + 3]? = some .defd := by rw [← hG1, gs (N + 3) (by omega)]; exact hd
  have b4 : G1[N + 4]? = some (.loop 1 .normal tm [14] whAs whBd) := by rw [← hG1]; exact gl _
  have br : R j G1 := hext j G G1 hr (fun i o h1 h2 => by rw [← hG1, gs i (by omega)]; exact h2)
  clear hG1 gs gl hlt hr hy hp hq hd hlo
  have up : ∀ (i : Nat) (o : AObj), G1[i]? = some o → (G1 ++ [.tok 1])[i]? = some o := fun i o h => by rw [List.getElem?_append_left (List.getElem?_eq_some_iff.1 h).1]; exact h
  obtain ⟨G2, y1, y2, y3⟩ := hstep (G1 ++ [.tok 1]) j hj (hext j _ _ br (fun i o _ h => up i o h))
  have z0 := up _ _ b0
  have w4 := y3 (N + 4) _ (by omega) (up _ _ b4)
  unfold whBd
  simp (disch := omega) only [wk, avalE, aactE, evPE, boundE, asNat, bv_seql cellsEq_ii, bv_sneqd cellsEq_ii, readC, allOne, fillL, resE, tupled, ↓reduceIte, Nat.reduceEqDiff, Int.reduceEq, Int.reduceLT, Int.reduceLE, Nat.reduceAdd, Nat.reduceMul, Nat.reduceLT, Nat.reduceLeDiff, reduceCtorEq, E2, lp, z0, y1, Bool.not_true, Int.toNat_zero]
  have gs : ∀ i, i ≠ N + 4 → ∀ o, (G2.set (N + 4) o)[i]? = G2[i]? := fun i h o => set_ne (fun e => h e.symm)
  refine ⟨rfl, _, _, _, _, _, _, readLoop_of w4, rfl, ?_, ?_, ?_, ?_, ?_, ?_⟩
  · exact hext (j + 1) G2 _ y2 (fun i o h1 h2 => by rw [gs i (by omega)]; exact h2)
  · rw [gs N (by omega)]; exact y3 N _ (Nat.le_refl _) z0
  · rw [gs (N + 1) (by omega)]; exact y3 (N + 1) _ (by omega) (up _ _ b1)
  · rw [gs (N + 2) (by omega)]; exact y3 (N + 2) _ (by omega) (up _ _ b2)
  · rw [gs (N + 3) (by omega)]; exact y3 (N + 3) _ (by omega) (up _ _ b3)
  · exact set_eq w4
theorem wholes1_ic {R : Nat → Heap → Prop} {id k : Nat} {L : List UInt8} (hL : L.length ≤ 100000) {tk : Tk} (htk : tk.isZ = false) (H : Heap)
    (hext : ∀ j G G', R j G → (∀ (i : Nat) (o : AObj), i < H.length → G[i]? = some o → G'[i]? = some o) → R j G')
    (hstep : ∀ (G : Heap) (j : Nat), j < L.length / 8 → R j G → ∃ G', (cbL tab).yl id [.int .u64 (wordM (chunkL L j))] G = some (.ret (.bool true), G') ∧ R (j + 1) G' ∧ ∀ (i : Nat) (o : AObj), H.length ≤ i → G[i]? = some o → G'[i]? = some o)
    (hR : R 0 H) (ha : H[k]? = some (.cells [.sl 1 L.length (encs byA L) tk])) :
    ∃ o H', (cbL tab).ic 196 [.yld id, .ptr k 0] H = some (o, H') ∧ o = .ret (.tup []) ∧ R (L.length / 8) H' := by
  have hk := (List.getElem?_eq_some_iff.1 ha).1
  have lb : (encs byA L).length = L.length := by rw [encs_length (k := 1), Nat.mul_one]
  obtain ⟨tk', htk', hsl⟩ : ∃ tk', tk'.isZ = false ∧ (if 8 * (L.length / 8) = L.length then AV.sl 1 L.length (encs byA L) tk else AV.sl 1 (8 * (L.length / 8)) (encs byA L) .ro) = .sl 1 (8 * (L.length / 8)) (encs byA L) tk' := by
    by_cases h : 8 * (L.length / 8) = L.length
    · rw [if_pos h]; exact ⟨tk, htk, by rw [h]⟩
    · rw [if_neg h]; exact ⟨.ro, rfl, rfl⟩
  refine ic_wp (fi := c196) rfl rfl (by simp [c196]) (by decide) ?_
  unfold c196
  have a1 : ∀ L' : List AObj, (H ++ L')[k]? = _ := fun L' => (List.getElem?_append_left hk).trans ha
  have ci := fun H => chunk_ic (8 * (L.length / 8)) (encs byA L) tk' H
  have tn : ((L.length : Int) - (L.length : Int) % 8).toNat = 8 * (L.length / 8) := by omega
  have n1 : (0 : Int) ≤ (L.length : Int) - (L.length : Int) % 8 := by omega
  have n2 : 8 * (L.length / 8) ≤ (encs byA L).length := by rw [lb]; omega
  have fy : AV.flat (.yld id) = [.yld id] := rfl
  have oy : AV.one (.yld id) = true := rfl
  simp (disch := omega) only [wk, avalE, aactE, evPE, boundE, asNat, bv_seql cellsEq_ii, bv_sneqd cellsEq_ii, readC, allOne, fillL, resE, tupled, ↓reduceIte, Nat.reduceEqDiff, Int.reduceEq, Int.reduceLT, Int.reduceLE, Nat.reduceAdd, Nat.reduceMul, Nat.reduceLT, Nat.reduceLeDiff, reduceCtorEq, fy, oy, a1, ci, tn, n1, n2, hsl, in_chunk, runE_none ll_chunk, List.append_assoc]
  refine ret_range (f := 208) (caps := [.ptr (H.length + 1) 0, .ptr (H.length + 1 + 1) 0]) (by simp only [en, ↓reduceIte, Nat.reduceEqDiff, evE_t]) (fun tm hag => ?_)
  have gl : (H ++ [AObj.cells [.yld id], .cells [.sl 1 (8 * (L.length / 8)) (encs byA L) tk'], .cells [.int .i64 8]]).length = H.length + 3 := by simp
  rw [gl]
  obtain ⟨G, hG⟩ : ∃ G, H ++ [AObj.cells [.yld id], .cells [.sl 1 (8 * (L.length / 8)) (encs byA L) tk'], .cells [.int .i64 8]] ++ [.defd, .loop 0 .normal tm [14] whAs whBd] = G := ⟨_, rfl⟩
  have gi : ∀ i, G[H.length + i]? = [AObj.cells [.yld id], .cells [.sl 1 (8 * (L.length / 8)) (encs byA L) tk'], .cells [.int .i64 8], .defd, .loop 0 .normal tm [14] whAs whBd][i]? := fun i => by
    rw [← hG, List.append_assoc, List.getElem?_append_right (by omega)]
    congr 1
    omega
  have gr : R 0 G := hext 0 H G hR (fun i o h1 h2 => by rw [← hG, List.append_assoc, List.getElem?_append_left h1]; exact h2)
  obtain ⟨o, H2, q1, rfl, hI⟩ := chunk1_ic (fun j G => InR R id H.length (L.length / 8) (encs byA L) tk' tm j G) (H.length + 3 + 1) (H.length + 1) (H.length + 2) L (L.length / 8) (by omega) hL tk' htk'
    (fun j G h => ⟨h.p, h.q⟩)
    (fun G j hj h => in_round (M := L.length / 8) rfl hag (by simp only [en, ↓reduceIte, Nat.reduceEqDiff]) hext hstep G j hj h) G ⟨gr, gi 0, gi 1, gi 2, gi 3, gi 4⟩
  obtain ⟨ir, iy, ip, iq, idd, il⟩ := hI
  rw [← hG] at q1
  refine ⟨_, H2, _, _, _, _, _, _, q1, readLoop_of il, by decide, rfl, ?_⟩
  change Ret _ _ _ _ _ _ _ _ (H2.set (H.length + 3 + 1) (.loop 3 .normal tm [14] whAs whBd))
  have d3 : (H2.set (H.length + 3 + 1) (.loop 3 .normal tm [14] whAs whBd))[H.length + 3]? = some .defd := by rw [set_ne (by omega)]; exact idd
  simp (disch := omega) only [wk, avalE, aactE, evPE, boundE, asNat, bv_seql cellsEq_ii, bv_sneqd cellsEq_ii, readC, allOne, fillL, resE, tupled, ↓reduceIte, Nat.reduceEqDiff, Int.reduceEq, Int.reduceLT, Int.reduceLE, Nat.reduceAdd, Nat.reduceMul, Nat.reduceLT, Nat.reduceLeDiff, reduceCtorEq]
  rw [ends_mark_n d3]
  simp (disch := omega) only [wk, avalE, aactE, evPE, boundE, asNat, bv_seql cellsEq_ii, bv_sneqd cellsEq_ii, readC, allOne, fillL, resE, tupled, ↓reduceIte, Nat.reduceEqDiff, Int.reduceEq, Int.reduceLT, Int.reduceLE, Nat.reduceAdd, Nat.reduceMul, Nat.reduceLT, Nat.reduceLeDiff, reduceCtorEq]
  refine hext _ H2 _ ir (fun i o h1 h2 => ?_)
  rw [set_ne (by omega), set_ne (by omega)]
  exact h2
end Go.Proofs.Ytailfegmnkldoaa
