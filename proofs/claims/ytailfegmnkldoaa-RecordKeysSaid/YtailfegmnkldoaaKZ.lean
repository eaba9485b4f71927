/- A SUM'S PART. No condition but those stated. -/
import Derived.Test.YtailfegmnkldoaaKY
import Derived.Test.YtailfegmnkldoaaR6
set_option linter.unusedSimpArgs false
set_option linter.unusedVariables false
set_option linter.unusedSectionVars false
namespace Go.Proofs.Ytailfegmnkldoaa
open Go Go.Am Go.Rec
set_option maxHeartbeats 4000000
set_option maxRecDepth 10000
def hashM (k0 k1 : Int) (L : List UInt8) : Int := finM (roundsM 4 (ffM (takeM (stAt (v0M k0 k1) L (L.length / 8)) (wordM (lastM (L.drop (8 * (L.length / 8))) L.length)))))
theorem hashM_ok {k0 k1 : Int} (h0 : U64 k0) (h1 : U64 k1) (L : List UInt8) : U64 (hashM k0 k1 L) := by
  refine finM_ok (roundsM_ok 4 (ffM_ok (takeM_ok (stAt_ok (v0M_ok h0 h1) L _) (word_ok ?_))))
  rw [lastM_len (by rw [List.length_drop]; omega)]
  exact Nat.le_refl _
theorem hsum_px {k0 k1 : Int} (h0 : U64 k0) (h1 : U64 k1) {L : List UInt8} (hne : L ≠ []) (hL : L.length ≤ 100000) (tk : Tk) (H : Heap) : pcx (cbL tab) 130 [.agg [.int .u64 k0, .int .u64 k1], .sl 1 L.length (encs byA L) tk] H = some (.plain (.int .u64 (hashM k0 k1 L))) := by
  obtain ⟨u1, e1, f1⟩ := lend_sl 1 L.length (encs byA L) tk
  have hfb : hfL (encs byA L) = true := hfL_encs (fun _ => rfl) L
  have e2 : lend (.agg [.int .u64 k0, .int .u64 k1]) = .agg [.int .u64 k0, .int .u64 k1] := rfl
  refine pcx_N rfl (pc_wp (fi := c130) rfl ?_ (by simp [c130]) (by decide) ?_)
  · show hfL [lend _, lend _] = true
    rw [e1, e2]
    simp [hfL, AV.hf, hfb, f1]
  unfold c130
  rw [List.map_cons, List.map_cons, List.map_nil, e1, e2]
  have ni := new_ic h0 h1 [.cells [.int .u64 k0, .int .u64 k1]]
  simp only [List.length_cons, List.length_nil, Nat.zero_add, List.cons_append, List.nil_append, Nat.reduceAdd] at ni
  obtain ⟨H2, t2, w1, w2⟩ := write_ic (H := [.cells [.int .u64 k0, .int .u64 k1], .cells [.int .u64 k0, .int .u64 k1], .cells (vA (v0M k0 k1) [.sl 0 0 [] .z, .int .i64 0, .bool true])]) (a := 2) (v0M_ok h0 h1) rfl hne hL u1
  have hd : (L.drop (8 * (L.length / 8))).length = L.length % 8 := by rw [List.length_drop]; omega
  rw [← hd] at w2
  obtain ⟨H3, z1⟩ := ssum_ic (stAt_ok (v0M_ok h0 h1) L _) (by omega) (n := L.length) (by omega) w2
  have z2 : (cbL tab).ic 166 [.ptr 2 0] H2 = some (.ret (.int .u64 (hashM k0 k1 L)), H3) := z1
  generalize hashM k0 k1 L = q at *
  clear z1 w2
  simp (disch := omega) only [wk, avalE, aactE, evPE, boundE, asNat, bv_seql cellsEq_ii, bv_sneqd cellsEq_ii, readC, allOne, fillL, resE, tupled, ↓reduceIte, Nat.reduceEqDiff, Int.reduceEq, Int.reduceLT, Int.reduceLE, Nat.reduceAdd, Nat.reduceMul, Nat.reduceLT, Nat.reduceLeDiff, reduceCtorEq, ni, w1, z2, in_new, runE_none ll_new, in_write, runE_none ll_write, in_ssum, runE_none ll_ssum, purify, unownT, lend, unown, AV.hf, hfL]
theorem win_px (n lo hi : Int) (H : Heap) : pcx (cbL tab) 170 [.int .i64 n, .int .i64 lo, .int .i64 hi] H = some (.plain (.bool (decide (lo ≤ n ∧ n ≤ hi)))) := by
  refine pcx_N rfl (pc_wp (fi := c170) rfl rfl (by simp [c170]) (by decide) ?_)
  unfold c170
  rw [List.map_cons, List.map_cons, List.map_cons, List.map_nil, lend_int, lend_int, lend_int]
  by_cases h1 : lo ≤ n <;> by_cases h2 : n ≤ hi <;> simp (disch := omega) only [wk, avalE, aactE, evPE, boundE, asNat, bv_seql cellsEq_ii, bv_sneqd cellsEq_ii, readC, allOne, fillL, resE, tupled, ↓reduceIte, Nat.reduceEqDiff, Int.reduceEq, Int.reduceLT, Int.reduceLE, Nat.reduceAdd, Nat.reduceMul, Nat.reduceLT, Nat.reduceLeDiff, reduceCtorEq, h1, h2, purify, unownT, lend, AV.hf, and_false, false_and]
theorem there_px {b : Nat} (h1 : 1 ≤ b) (h2 : b ≤ 40) (H : Heap) : pcx (cbL tab) 135 [.int .i64 (64 - (b : Int)), .int .i64 (b : Nat)] H = some (.plain (.bool true)) := by
  refine pcx_N rfl (pc_wp (fi := c135) rfl rfl (by simp [c135]) (by decide) ?_)
  unfold c135
  rw [List.map_cons, List.map_cons, List.map_nil, lend_int, lend_int]
  have w1 := fun H => win_px (64 - (b : Int)) 0 63 H
  have w2 := fun H => win_px (b : Int) 1 (64 - (64 - (b : Int))) H
  rw [decide_eq_true (by omega)] at w1 w2
  simp (disch := omega) only [wk, avalE, aactE, evPE, boundE, asNat, bv_seql cellsEq_ii, bv_sneqd cellsEq_ii, readC, allOne, fillL, resE, tupled, ↓reduceIte, Nat.reduceEqDiff, Int.reduceEq, Int.reduceLT, Int.reduceLE, Nat.reduceAdd, Nat.reduceMul, Nat.reduceLT, Nat.reduceLeDiff, reduceCtorEq, w1, w2, purify, unownT, lend, AV.hf]
theorem pows {b : Nat} (h2 : b ≤ 40) : (2 : Nat) ^ b * 2 ^ (64 - b) = 18446744073709551616 ∧ 1 ≤ (2 : Nat) ^ b ∧ 1 ≤ (2 : Nat) ^ (64 - b) ∧ (2 : Nat) ^ b ≤ 1099511627776 := by
  refine ⟨?_, Nat.one_le_two_pow, Nat.one_le_two_pow, ?_⟩
  · rw [← Nat.pow_add, show b + (64 - b) = 64 by omega]
  · exact Nat.pow_le_pow_right (by decide) h2
theorem masked_px {b : Nat} (h1 : 1 ≤ b) (h2 : b ≤ 40) (H : Heap) : pcx (cbL tab) 136 [.int .i64 (64 - (b : Int)), .int .i64 (b : Nat)] H = some (.plain (.int .u64 (((2 ^ b - 1) * 2 ^ (64 - b) : Nat) : Int))) := by
  refine pcx_N rfl (pc_wp (fi := c136) rfl rfl (by simp [c136]) (by decide) ?_)
  unfold c136
  rw [List.map_cons, List.map_cons, List.map_nil, lend_int, lend_int]
  obtain ⟨p1, p2, p3, p4⟩ := pows h2
  have hm : (2 ^ b - 1) * 2 ^ (64 - b) + 2 ^ (64 - b) = 18446744073709551616 := by
    rw [← p1]
    conv => rhs; rw [show 2 ^ b = (2 ^ b - 1) + 1 by omega, Nat.add_mul, Nat.one_mul]
  have ec : ((2 ^ b : Nat) : Int) = (2 : Int) ^ b := by simp
  have ed : ((2 ^ (64 - b) : Nat) : Int) = (2 : Int) ^ (64 - b) := by simp
  have sl1 : ∀ {xo yo : X} {ek : EqK}, binV .shl ek xo yo (.int .u64 1) (.int .i64 (b : Nat)) = some (.int .u64 ((2 ^ b : Nat) : Int)) := fun {xo yo ek} => by
    have := u64_shl (xo := xo) (yo := yo) (ek := ek) (a := 1) (b := (b : Int)) (k := .i64) (by omega) (by omega) (by rw [Int.toNat_natCast, ← ec]; omega) (by rw [Int.toNat_natCast, ← ec]; omega)
    rw [this, Int.toNat_natCast, ← ec, Int.one_mul]
  have sl2 : ∀ {xo yo : X} {ek : EqK}, binV .shl ek xo yo (.int .u64 (((2 ^ b : Nat) : Int) - 1)) (.int .i64 (64 - (b : Int))) = some (.int .u64 (((2 ^ b - 1) * 2 ^ (64 - b) : Nat) : Int)) := fun {xo yo ek} => by
    have e64 : (64 - (b : Int)).toNat = 64 - b := by omega
    have em : (((2 ^ b : Nat) : Int) - 1) * (2 : Int) ^ (64 - b) = (((2 ^ b - 1) * 2 ^ (64 - b) : Nat) : Int) := by
      rw [← ed, Int.natCast_mul]
      congr 1
      omega
    have := u64_shl (xo := xo) (yo := yo) (ek := ek) (a := ((2 ^ b : Nat) : Int) - 1) (b := 64 - (b : Int)) (k := .i64) (by omega) (by omega) (by rw [e64, em]; omega) (by rw [e64, em]; omega)
    rw [this, e64, em]
  generalize (2 : Nat) ^ b = P at *
  generalize (P - 1) * 2 ^ (64 - b) = Q at *
  have n64 : ¬ (b : Int) = 64 := by omega
  simp (disch := omega) only [wk, avalE, aactE, evPE, boundE, asNat, bv_seql cellsEq_ii, bv_sneqd cellsEq_ii, readC, allOne, fillL, resE, tupled, ↓reduceIte, Nat.reduceEqDiff, Int.reduceEq, Int.reduceLT, Int.reduceLE, Nat.reduceAdd, Nat.reduceMul, Nat.reduceLT, Nat.reduceLeDiff, reduceCtorEq, n64, sl1, sl2, purify, unownT, lend, unown, AV.hf, hfL]
end Go.Proofs.Ytailfegmnkldoaa
