/- THE DOCUMENT'S HASH: its sum, its part. No condition but those stated. -/
import Derived.Test.YtailfegmnkldoaaKG
import Derived.Test.YtailfegmnkldoaaKF
set_option linter.unusedSimpArgs false
set_option linter.unusedVariables false
set_option linter.unusedSectionVars false
namespace Go.Proofs.Ytailfegmnkldoaa
open Go Go.Am Go.Rec
set_option maxHeartbeats 4000000
set_option maxRecDepth 10000
theorem wordM_zeros : ∀ (T : List UInt8) (k : Nat), wordM (T ++ List.replicate k 0) = wordM T
  | [], 0 => rfl
  | [], k + 1 => by
    have := wordM_zeros [] k
    rw [List.nil_append] at this ⊢
    rw [List.replicate_succ]
    show ((0 : UInt8).toNat : Int) + 256 * wordM (List.replicate k 0) = 0
    rw [this]
    rfl
  | b :: r, k => by rw [List.cons_append, wordM, wordM, wordM_zeros r k]
theorem last_word {T : List UInt8} (h : T.length ≤ 7) (n : Nat) : wordM (lastM T n) = wordM T + ((n % 256 : Nat) : Int) * 72057594037927936 := by
  unfold lastM
  rw [wordM_snoc, wordM_zeros, List.length_append, List.length_replicate, show T.length + (7 - T.length) = 7 by omega, UInt8.toNat_ofNat']
  rfl
/-- The state behind so many words, the last one among them. -/
def rsAt (v : V4) (L : List UInt8) (j : Nat) : V4 := if j ≤ L.length / 8 then stAt v L j else takeM (stAt v L (L.length / 8)) (wordM (lastM (L.drop (8 * (L.length / 8))) L.length))
def rwAt (L : List UInt8) (j : Nat) : Int := if j < L.length / 8 then wordM (chunkL L j) else wordM (lastM (L.drop (8 * (L.length / 8))) L.length)
theorem rwAt_ok (L : List UInt8) (j : Nat) : U64 (rwAt L j) := by
  unfold rwAt
  split
  · exact chunk_ok L j
  · exact word_ok (by rw [lastM_len (by rw [List.length_drop]; omega)]; exact Nat.le_refl _)
theorem rsAt_succ (v : V4) (L : List UInt8) (j : Nat) (h : j ≤ L.length / 8) : rsAt v L (j + 1) = takeM (rsAt v L j) (rwAt L j) := by
  unfold rsAt rwAt
  rw [if_pos h]
  by_cases h1 : j < L.length / 8
  · rw [if_pos (by omega), if_pos h1]; rfl
  · obtain rfl : j = L.length / 8 := by omega
    rw [if_neg (by omega), if_neg h1]
theorem rsAt_ok {v : V4} (hv : v.ok) (L : List UInt8) (j : Nat) : (rsAt v L j).ok := by
  unfold rsAt
  split
  · exact stAt_ok hv L j
  · exact takeM_ok (stAt_ok hv L _) (word_ok (by rw [lastM_len (by rw [List.length_drop]; omega)]; exact Nat.le_refl _))
theorem chunk_last (L : List UInt8) : chunkL L (L.length / 8) = L.drop (8 * (L.length / 8)) := by
  unfold chunkL
  rw [List.take_of_length_le]
  rw [List.length_drop]
  omega
theorem rhash_px {k0 k1 : Int} (h0 : U64 k0) (h1 : U64 k1) {L : List UInt8} (hL : L.length ≤ 1000) (tk : Tk) (H : Heap) : pcx (cbL tab) 134 [.agg [.int .u64 k0, .int .u64 k1], .sl 1 L.length (encs byA L) tk] H = some (.plain (.int .u64 (hashM k0 k1 L))) := by
  obtain ⟨u1, e1, f1⟩ := lend_sl 1 L.length (encs byA L) tk
  have hfb : hfL (encs byA L) = true := hfL_encs (fun _ => rfl) L
  have e2 : lend (.agg [.int .u64 k0, .int .u64 k1]) = .agg [.int .u64 k0, .int .u64 k1] := rfl
  refine pcx_N rfl (pc_wp (fi := c134) rfl ?_ (by simp [c134]) (by decide) ?_)
  · show hfL [lend _, lend _] = true
    rw [e1, e2]
    simp [hfL, AV.hf, hfb, f1]
  unfold c134
  rw [List.map_cons, List.map_cons, List.map_nil, e1, e2]
  have x1 : ∀ {xo yo : X} {ek : EqK}, binV .xor ek xo yo (.int .u64 k0) (.int .u64 8317987319222330741) = some (.int .u64 (xorI k0 8317987319222330741)) := fun {xo yo ek} => u64_xor h0.1 h0.2 (by decide) (by decide)
  have x2 : ∀ {xo yo : X} {ek : EqK}, binV .xor ek xo yo (.int .u64 k1) (.int .u64 7237128888997146477) = some (.int .u64 (xorI k1 7237128888997146477)) := fun {xo yo ek} => u64_xor h1.1 h1.2 (by decide) (by decide)
  have x3 : ∀ {xo yo : X} {ek : EqK}, binV .xor ek xo yo (.int .u64 k0) (.int .u64 7816392313619706465) = some (.int .u64 (xorI k0 7816392313619706465)) := fun {xo yo ek} => u64_xor h0.1 h0.2 (by decide) (by decide)
  have x4 : ∀ {xo yo : X} {ek : EqK}, binV .xor ek xo yo (.int .u64 k1) (.int .u64 8387220255154660723) = some (.int .u64 (xorI k1 8387220255154660723)) := fun {xo yo ek} => u64_xor h1.1 h1.2 (by decide) (by decide)
  have i0 : Int.toNat 0 = 0 := rfl
  have i1 : Int.toNat 1 = 1 := rfl
  have i2 : Int.toNat 2 = 2 := rfl
  have i3 : Int.toNat 3 = 3 := rfl
  simp (disch := omega) only [wk, avalE, aactE, evPE, boundE, asNat, bv_seql cellsEq_ii, bv_sneqd cellsEq_ii, readC, allOne, fillL, resE, tupled, ↓reduceIte, Nat.reduceEqDiff, Int.reduceEq, Int.reduceLT, Int.reduceLE, Nat.reduceAdd, Nat.reduceMul, Nat.reduceLT, Nat.reduceLeDiff, reduceCtorEq, x1, x2, x3, x4, i0, i1]
  have hv0 := v0M_ok h0 h1
  have hm : hashM k0 k1 L = finM (roundsM 4 (ffM (rsAt (v0M k0 k1) L (L.length / 8 + 1)))) := by
    unfold rsAt
    rw [if_neg (by omega)]
    rfl
  rw [hm]
  refine loop_ind (fun (j : Nat) E df H => j ≤ L.length / 8 + 1 ∧ E 1 = .sl 1 L.length (encs byA L) u1 ∧ E 5 = .ptr 1 0 ∧ E 6 = .int .i64 ((8 * j : Nat) : Int) ∧ H = [.cells [.int .u64 k0, .int .u64 k1], .cells (vA (rsAt (v0M k0 k1) L j) [])] ∧ df = [])
    (fun j => L.length + 2 - j) 0 (by decide) (.inl rfl) ⟨by omega, rfl, rfl, rfl, by unfold rsAt; rw [if_pos (by omega)]; rfl, rfl⟩ ?_
  clear x1 x2 x3 x4 hm
  intro j E df H ih hP
  obtain ⟨a1, E1, E5, E6, hH, hdf⟩ := hP
  subst hdf hH
  have hu := rsAt_ok hv0 L j
  generalize hU : rsAt (v0M k0 k1) L j = u at hu ⊢
  by_cases hj : j ≤ L.length / 8
  · have hsucc := rsAt_succ (v0M k0 k1) L j hj
    have w1 : ∀ tk H, pcx (cbL tab) 168 [.sl 1 (L.length - 8 * j) (encs byA (L.drop (8 * j))) tk] H = some (.plain (.int .u64 (wordM (chunkL L j)))) := fun tk H => by
      have := word_px (L.drop (8 * j)) tk H (by rw [List.length_drop]; omega)
      rw [List.length_drop] at this
      exact this
    have hd : List.drop (8 * j) (encs byA L) = encs byA (L.drop (8 * j)) := by
      have := encs_drop (f := byA) L (8 * j)
      rw [Nat.mul_one] at this
      exact this
    have hsl : (if 8 * j = 0 then AV.sl 1 L.length (encs byA L) u1 else .sl 1 (L.length - 8 * j) (List.drop (8 * j) (encs byA L)) .ro) = .sl 1 (L.length - 8 * j) (encs byA (L.drop (8 * j))) (if 8 * j = 0 then u1 else .ro) := by
      split
      · rename_i h0; rw [h0]; rfl
      · rw [hd]
    have enl : (encs byA L).length = L.length := by rw [encs_length (k := 1), Nat.mul_one]
    have hle : 8 * j ≤ L.length := by omega
    have n1 : ((8 * j : Nat) : Int) ≤ (L.length : Int) := by omega
    have hwk := rwAt_ok L j
    have pp := preT_ok hu hwk
    have hq := roundM_ok (roundM_ok pp)
    have r1 : ∀ H, pcx (cbL tab) 169 [.agg [.int .u64 u.a, .int .u64 u.b, .int .u64 u.c, .int .u64 (xorI u.d (rwAt L j))]] H = some (.plain (.agg (vA (roundM (preT u (rwAt L j))) []))) := fun H => round_px pp H
    have r2 : ∀ H, pcx (cbL tab) 169 [.agg (vA (roundM (preT u (rwAt L j))) [])] H = some (.plain (.agg (vA (roundM (roundM (preT u (rwAt L j)))) []))) := fun H => round_px (roundM_ok pp) H
    have y1 : ∀ {xo yo : X} {ek : EqK}, binV .xor ek xo yo (.int .u64 u.d) (.int .u64 (rwAt L j)) = some (.int .u64 (xorI u.d (rwAt L j))) := fun {xo yo ek} => u64_xor hu.2.2.2.1 hu.2.2.2.2 hwk.1 hwk.2
    have htk : takeM u (rwAt L j) = postT (roundM (roundM (preT u (rwAt L j)))) (rwAt L j) := rfl
    rw [hU, htk] at hsucc
    generalize roundM (preT u (rwAt L j)) = q1 at *
    generalize roundM q1 = q at *
    obtain ⟨qa, qb, qc, qd⟩ := q
    obtain ⟨ua, ub, uc, ud⟩ := u
    have y2 : ∀ {xo yo : X} {ek : EqK}, binV .xor ek xo yo (.int .u64 qa) (.int .u64 (rwAt L j)) = some (.int .u64 (xorI qa (rwAt L j))) := fun {xo yo ek} => u64_xor hq.1.1 hq.1.2 hwk.1 hwk.2
    dsimp only at r1 y1
    have r2' : ∀ H, pcx (cbL tab) 169 [.agg (vA q1 [])] H = some (.plain (.agg [.int .u64 qa, .int .u64 qb, .int .u64 qc, .int .u64 qd])) := r2
    have hs2 : rsAt (v0M k0 k1) L (j + 1) = ⟨xorI qa (rwAt L j), qb, qc, qd⟩ := hsucc
    have e8 : ((8 * (j + 1) : Nat) : Int) = ((8 * j : Nat) : Int) + 8 := by omega
    obtain ⟨p1, p2, p3, p4, p5⟩ : (8 * j ≤ L.length) ∧ True ∧ True ∧ True ∧ True := ⟨hle, trivial, trivial, trivial, trivial⟩
    unfold vA
    dsimp only
    by_cases hl : j < L.length / 8
    · have hw : rwAt L j = wordM (chunkL L j) := by unfold rwAt; rw [if_pos hl]
      have n2 : ¬ (L.length : Int) < ((8 * j : Nat) : Int) + 8 := by omega
      rw [← hw] at w1
      clear r2 hsucc htk hwk pp hq hu p1 p2 p3 p4 p5
      generalize rwAt L j = w at *
      have hv := vA
      simp (disch := omega) only [wk, avalE, aactE, evPE, boundE, asNat, bv_seql cellsEq_ii, bv_sneqd cellsEq_ii, readC, allOne, fillL, resE, tupled, ↓reduceIte, Nat.reduceEqDiff, Int.reduceEq, Int.reduceLT, Int.reduceLE, Nat.reduceAdd, Nat.reduceMul, Nat.reduceLT, Nat.reduceLeDiff, reduceCtorEq, E1, E5, E6, n1, enl, hle, hsl, w1, n2, i0, i3, y1, r1, r2', y2, Nat.le_refl, and_true]
      refine ih (j + 1) _ _ _ (by omega) ⟨by omega, by simp only [en, ↓reduceIte, Nat.reduceEqDiff, E1], by simp only [en, ↓reduceIte, Nat.reduceEqDiff, E5], by simp only [en, ↓reduceIte, Nat.reduceEqDiff, e8], ?_, rfl⟩
      rw [hs2]
      rfl
    · obtain rfl : j = L.length / 8 := by omega
      have hw : rwAt L (L.length / 8) = wordM (chunkL L (L.length / 8)) + ((L.length % 256 : Nat) : Int) * 72057594037927936 := by
        unfold rwAt
        rw [if_neg hl, last_word (by rw [List.length_drop]; omega), chunk_last]
      have n2 : (L.length : Int) < ((8 * (L.length / 8) : Nat) : Int) + 8 := by omega
      have po : ∀ H, pcx (cbL tab) 167 [.int .i64 56] H = some (.plain (.int .u64 72057594037927936)) := fun H => power_px (n := 56) (by decide) H
      have hc0 := (chunk_ok L (L.length / 8)).1
      have wr1 : IntKind.u64.wrap ((L.length : Int) % 256) = ((L.length % 256 : Nat) : Int) := by rw [wrap_u64 (by omega) (by omega)]; omega
      have wr2 : IntKind.u64.wrap (((L.length % 256 : Nat) : Int) * 72057594037927936) = ((L.length % 256 : Nat) : Int) * 72057594037927936 := wrap_u64 (by omega) (by omega)
      have wr3 : IntKind.u64.wrap (wordM (chunkL L (L.length / 8)) + ((L.length % 256 : Nat) : Int) * 72057594037927936) = rwAt L (L.length / 8) := by
        rw [hw] at hwk ⊢
        exact wrap_u64 hwk.1 hwk.2
      clear r2 hsucc htk hwk pp hq hu p1 p2 p3 p4 p5 hw hc0 hj a1
      generalize rwAt L (L.length / 8) = w at *
      generalize wordM (chunkL L (L.length / 8)) = w0 at *
      simp (disch := omega) only [wk, avalE, aactE, evPE, boundE, asNat, bv_seql cellsEq_ii, bv_sneqd cellsEq_ii, readC, allOne, fillL, resE, tupled, ↓reduceIte, Nat.reduceEqDiff, Int.reduceEq, Int.reduceLT, Int.reduceLE, Nat.reduceAdd, Nat.reduceMul, Nat.reduceLT, Nat.reduceLeDiff, reduceCtorEq, E1, E5, E6, n1, enl, hle, hsl, w1, n2, po, wr1, wr2, wr3, i0, i3, y1, r1, r2', y2, Nat.le_refl, and_true]
      refine ih (L.length / 8 + 1) _ _ _ (by omega) ⟨by omega, by simp only [en, ↓reduceIte, Nat.reduceEqDiff, E1], by simp only [en, ↓reduceIte, Nat.reduceEqDiff, E5], by simp only [en, ↓reduceIte, Nat.reduceEqDiff, e8], ?_, rfl⟩
      rw [hs2]
      rfl
  · obtain rfl : j = L.length / 8 + 1 := by omega
    have n1 : ¬ ((8 * (L.length / 8 + 1) : Nat) : Int) ≤ (L.length : Int) := by omega
    rw [hU]
    have f1 := ffM_ok hu
    have y1 : ∀ {xo yo : X} {ek : EqK}, binV .xor ek xo yo (.int .u64 u.c) (.int .u64 255) = some (.int .u64 (xorI u.c 255)) := fun {xo yo ek} => u64_xor hu.2.2.1.1 hu.2.2.1.2 (by decide) (by decide)
    have r1 : ∀ H, pcx (cbL tab) 169 [.agg [.int .u64 u.a, .int .u64 u.b, .int .u64 (xorI u.c 255), .int .u64 u.d]] H = some (.plain (.agg (vA (roundM (ffM u)) []))) := fun H => round_px f1 H
    have g1 := roundM_ok f1
    have e4 : roundsM 4 (ffM u) = roundM (roundM (roundM (roundM (ffM u)))) := rfl
    rw [e4]
    generalize roundM (ffM u) = q1 at *
    have r2 : ∀ H, pcx (cbL tab) 169 [.agg (vA q1 [])] H = some (.plain (.agg (vA (roundM q1) []))) := fun H => round_px g1 H
    have g2 := roundM_ok g1
    generalize roundM q1 = q2 at *
    have r3 : ∀ H, pcx (cbL tab) 169 [.agg (vA q2 [])] H = some (.plain (.agg (vA (roundM q2) []))) := fun H => round_px g2 H
    have g3 := roundM_ok g2
    generalize roundM q2 = q3 at *
    have r4 : ∀ H, pcx (cbL tab) 169 [.agg (vA q3 [])] H = some (.plain (.agg (vA (roundM q3) []))) := fun H => round_px g3 H
    have g4 := roundM_ok g3
    generalize roundM q3 = q4 at *
    obtain ⟨a, b, c, d⟩ := q4
    obtain ⟨ua, ub, uc, ud⟩ := u
    have r4' : ∀ H, pcx (cbL tab) 169 [.agg (vA q3 [])] H = some (.plain (.agg [.int .u64 a, .int .u64 b, .int .u64 c, .int .u64 d])) := r4
    dsimp only at r1 y1
    have z1 := g4.1.x g4.2.1
    have z2 := z1.x g4.2.2.1
    have y2 : ∀ {xo yo : X} {ek : EqK}, binV .xor ek xo yo (.int .u64 a) (.int .u64 b) = some (.int .u64 (xorI a b)) := fun {xo yo ek} => u64_xor g4.1.1 g4.1.2 g4.2.1.1 g4.2.1.2
    have y3 : ∀ {xo yo : X} {ek : EqK}, binV .xor ek xo yo (.int .u64 (xorI a b)) (.int .u64 c) = some (.int .u64 (xorI (xorI a b) c)) := fun {xo yo ek} => u64_xor z1.1 z1.2 g4.2.2.1.1 g4.2.2.1.2
    have y4 : ∀ {xo yo : X} {ek : EqK}, binV .xor ek xo yo (.int .u64 (xorI (xorI a b) c)) (.int .u64 d) = some (.int .u64 (xorI (xorI (xorI a b) c) d)) := fun {xo yo ek} => u64_xor z2.1 z2.2 g4.2.2.2.1 g4.2.2.2.2
    have hfin : finM ⟨a, b, c, d⟩ = xorI (xorI (xorI a b) c) d := rfl
    rw [hfin]
    unfold vA
    dsimp only
    simp (disch := omega) only [wk, avalE, aactE, evPE, boundE, asNat, bv_seql cellsEq_ii, bv_sneqd cellsEq_ii, readC, allOne, fillL, resE, tupled, ↓reduceIte, Nat.reduceEqDiff, Int.reduceEq, Int.reduceLT, Int.reduceLE, Nat.reduceAdd, Nat.reduceMul, Nat.reduceLT, Nat.reduceLeDiff, reduceCtorEq, E1, E5, E6, n1, i0, i1, i2, i3, y1, y2, y3, y4, r1, r2, r3, r4', purify, unownT, lend, unown, AV.hf, hfL]
theorem rpart_px {k0 k1 : Int} (h0 : U64 k0) (h1 : U64 k1) {L : List UInt8} (hL : L.length ≤ 1000) {b : Nat} (hb1 : 1 ≤ b) (hb2 : b ≤ 40) (H : Heap) :
    pcx (cbL tab) 80 [.agg [.int .u64 k0, .int .u64 k1], .sl 1 L.length (encs byA L) .ro, .int .i64 (b : Nat)] H = some (.plain (.int .u64 (partM k0 k1 L b : Nat))) := by
  have hfb : hfL (encs byA L) = true := hfL_encs (fun _ => rfl) L
  have e2 : lend (.agg [.int .u64 k0, .int .u64 k1]) = .agg [.int .u64 k0, .int .u64 k1] := rfl
  refine pcx_N rfl (pc_wp (fi := c80) rfl ?_ (by simp [c80]) (by decide) ?_)
  · show hfL [lend _, lend _, lend _] = true
    rw [e2, lend_ro, lend_int]
    simp [hfL, AV.hf, hfb, Tk.hf]
  unfold c80
  rw [List.map_cons, List.map_cons, List.map_cons, List.map_nil, e2, lend_ro, lend_int]
  have hs := fun H => rhash_px h0 h1 hL .ro H
  have ho := hashM_ok h0 h1 L
  have fp : ∀ H, pcx (cbL tab) 133 [.int .u64 (hashM k0 k1 L), .int .i64 (64 - (b : Int)), .int .i64 (b : Nat)] H = some (.plain (.int .u64 (partM k0 k1 L b : Nat))) := fun H => by
    have := rfield_px (w := (hashM k0 k1 L).toNat) (by have := ho.2; have := ho.1; omega) hb1 hb2 H
    rwa [Int.toNat_of_nonneg ho.1] at this
  generalize partM k0 k1 L b = q at *
  generalize hashM k0 k1 L = r at *
  have m1 : (-(0 + 1) : Int) < 64 - (b : Int) := by omega
  simp (disch := omega) only [wk, avalE, aactE, evPE, boundE, asNat, bv_seql cellsEq_ii, bv_sneqd cellsEq_ii, readC, allOne, fillL, resE, tupled, ↓reduceIte, Nat.reduceEqDiff, Int.reduceEq, Int.reduceLT, Int.reduceLE, Nat.reduceAdd, Nat.reduceMul, Nat.reduceLT, Nat.reduceLeDiff, reduceCtorEq, hs, fp, m1, purify, unownT, lend, unown, AV.hf, hfL]
end Go.Proofs.Ytailfegmnkldoaa
