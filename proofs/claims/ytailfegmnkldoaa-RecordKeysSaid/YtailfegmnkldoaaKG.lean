/- THE DOCUMENT'S HASH. No condition but those stated. -/
import Derived.Test.YtailfegmnkldoaaKZ
set_option linter.unusedSimpArgs false
set_option linter.unusedVariables false
set_option linter.unusedSectionVars false
namespace Go.Proofs.Ytailfegmnkldoaa
open Go Go.Am Go.Rec
set_option maxHeartbeats 4000000
set_option maxRecDepth 10000
theorem turn_px {w : Int} (h : U64 w) (n : Nat) (hn : n < 64) (H : Heap) : pcx (cbL tab) 189 [.int .u64 w, .int .u64 (n : Nat)] H = some (.plain (.int .u64 (rotM w n))) := by
  refine pcx_N rfl (pc_wp (fi := c189) rfl rfl (by simp [c189]) (by decide) ?_)
  unfold c189
  rw [List.map_cons, List.map_cons, List.map_nil, lend_int, lend_int]
  have sl : ∀ {xo yo : X} {ek : EqK}, binV .shl ek xo yo (.int .u64 w) (.int .u64 (n : Nat)) = some (.int .u64 (w * 2 ^ n % 18446744073709551616)) := fun {xo yo ek} => by
    have e : binV .shl ek xo yo (.int .u64 w) (.int .u64 (n : Nat)) = (if (n : Int) < 0 then none else some (.int .u64 (IntKind.u64.wrap (w * 2 ^ (min (n : Int).toNat 64))))) := rfl
    rw [e, if_neg (by omega)]
    have : min ((n : Int).toNat) 64 = n := by omega
    rw [this]
    have : IntKind.u64.wrap (w * 2 ^ n) = w * 2 ^ n % 18446744073709551616 := by simp [IntKind.wrap, IntKind.signed, IntKind.bits]
    rw [this]
  have sr : ∀ {xo yo : X} {ek : EqK}, binV .shr ek xo yo (.int .u64 w) (.int .u64 (64 - (n : Int))) = some (.int .u64 (w / 2 ^ (64 - n))) := fun {xo yo ek} => by
    have := u64_shr (xo := xo) (yo := yo) (ek := ek) (a := w) (b := 64 - (n : Int)) (k := .u64) (by omega) (by omega)
    rwa [show (64 - (n : Int)).toNat = 64 - n by omega] at this
  have rp := rot_parts h n
  have oo : ∀ {xo yo : X} {ek : EqK}, binV .or ek xo yo (.int .u64 (w * 2 ^ n % 18446744073709551616)) (.int .u64 (w / 2 ^ (64 - n))) = some (.int .u64 (rotM w n)) := fun {xo yo ek} => u64_orI rp.1 rp.2
  generalize w * 2 ^ n % 18446744073709551616 = p at *
  generalize w / 2 ^ (64 - n) = q at *
  simp (disch := omega) only [wk, avalE, aactE, evPE, boundE, asNat, bv_seql cellsEq_ii, bv_sneqd cellsEq_ii, readC, allOne, fillL, resE, tupled, ↓reduceIte, Nat.reduceEqDiff, Int.reduceEq, Int.reduceLT, Int.reduceLE, Nat.reduceAdd, Nat.reduceMul, Nat.reduceLT, Nat.reduceLeDiff, reduceCtorEq, sl, sr, oo, purify, unownT, lend, unown, AV.hf, hfL]
theorem round_px {v : V4} (h : v.ok) (H : Heap) : pcx (cbL tab) 169 [.agg (vA v [])] H = some (.plain (.agg (vA (roundM v) []))) := by
  have ev : lend (.agg (vA v [])) = .agg (vA v []) := rfl
  refine pcx_N rfl (pc_wp (fi := c169) rfl rfl (by simp [c169]) (by decide) ?_)
  unfold c169
  rw [List.map_cons, List.map_nil, ev]
  have o1 := h01_ok h
  have o2 := ra_ok o1
  have o3 := h23_ok o2
  have o4 := h03_ok o3
  have o5 := h21_ok o4
  have hr : roundM v = rc (h21 (h03 (h23 (ra (h01 v))))) := rfl
  obtain ⟨a, b, c, d⟩ := v
  have t1 : ∀ H, pcx (cbL tab) 189 [.int .u64 b, .int .u64 13] H = some (.plain (.int .u64 (rotM (b) 13))) := fun H => turn_px (n := 13) h.2.1 (by decide) H
  have y1 : ∀ {xo yo : X} {ek : EqK}, binV .xor ek xo yo (.int .u64 (rotM b 13)) (.int .u64 (add64 a b)) = some (.int .u64 (xorI (rotM b 13) (add64 a b))) := fun {xo yo ek} => u64_xor (rotM_ok h.2.1 13).1 (rotM_ok h.2.1 13).2 o1.1.1 o1.1.2
  have t2 : ∀ H, pcx (cbL tab) 189 [.int .u64 (add64 a b), .int .u64 32] H = some (.plain (.int .u64 (rotM ((add64 a b)) 32))) := fun H => turn_px (n := 32) o1.1 (by decide) H
  have t3 : ∀ H, pcx (cbL tab) 189 [.int .u64 d, .int .u64 16] H = some (.plain (.int .u64 (rotM (d) 16))) := fun H => turn_px (n := 16) h.2.2.2 (by decide) H
  have y2 : ∀ {xo yo : X} {ek : EqK}, binV .xor ek xo yo (.int .u64 (rotM d 16)) (.int .u64 (add64 c d)) = some (.int .u64 (xorI (rotM d 16) (add64 c d))) := fun {xo yo ek} => u64_xor (rotM_ok h.2.2.2 16).1 (rotM_ok h.2.2.2 16).2 (add64_ok c d).1 (add64_ok c d).2
  simp only [rc, h21, h03, h23, ra, h01] at hr o1 o2 o3 o4 o5
  generalize xorI (rotM b 13) (add64 a b) = b1 at *
  generalize rotM (add64 a b) 32 = a2 at *
  generalize xorI (rotM d 16) (add64 c d) = d1 at *
  have t4 : ∀ H, pcx (cbL tab) 189 [.int .u64 d1, .int .u64 21] H = some (.plain (.int .u64 (rotM (d1) 21))) := fun H => turn_px (n := 21) o3.2.2.2 (by decide) H
  have y3 : ∀ {xo yo : X} {ek : EqK}, binV .xor ek xo yo (.int .u64 (rotM d1 21)) (.int .u64 (add64 a2 d1)) = some (.int .u64 (xorI (rotM d1 21) (add64 a2 d1))) := fun {xo yo ek} => u64_xor (rotM_ok o3.2.2.2 21).1 (rotM_ok o3.2.2.2 21).2 o4.1.1 o4.1.2
  have t5 : ∀ H, pcx (cbL tab) 189 [.int .u64 b1, .int .u64 17] H = some (.plain (.int .u64 (rotM (b1) 17))) := fun H => turn_px (n := 17) o4.2.1 (by decide) H
  have y4 : ∀ {xo yo : X} {ek : EqK}, binV .xor ek xo yo (.int .u64 (rotM b1 17)) (.int .u64 (add64 (add64 c d) b1)) = some (.int .u64 (xorI (rotM b1 17) (add64 (add64 c d) b1))) := fun {xo yo ek} => u64_xor (rotM_ok o4.2.1 17).1 (rotM_ok o4.2.1 17).2 o5.2.2.1.1 o5.2.2.1.2
  have t6 : ∀ H, pcx (cbL tab) 189 [.int .u64 (add64 (add64 c d) b1), .int .u64 32] H = some (.plain (.int .u64 (rotM ((add64 (add64 c d) b1)) 32))) := fun H => turn_px (n := 32) o5.2.2.1 (by decide) H
  rw [hr]
  generalize xorI (rotM d1 21) (add64 a2 d1) = d2 at *
  generalize xorI (rotM b1 17) (add64 (add64 c d) b1) = b2 at *
  generalize rotM (add64 (add64 c d) b1) 32 = c3 at *
  clear o1 o2 o3 o4 o5 hr
  unfold vA
  dsimp only
  have i0 : Int.toNat 0 = 0 := rfl
  have i1 : Int.toNat 1 = 1 := rfl
  have i2 : Int.toNat 2 = 2 := rfl
  have i3 : Int.toNat 3 = 3 := rfl
  simp (disch := omega) only [wk, avalE, aactE, evPE, boundE, asNat, bv_seql cellsEq_ii, bv_sneqd cellsEq_ii, readC, allOne, fillL, resE, tupled, ↓reduceIte, Nat.reduceEqDiff, Int.reduceEq, Int.reduceLT, Int.reduceLE, Nat.reduceAdd, Nat.reduceMul, Nat.reduceLT, Nat.reduceLeDiff, reduceCtorEq, wrap_add, t1, y1, t2, t3, y2, t4, y3, t5, y4, t6, i0, i1, i2, i3, purify, unownT, lend, unown, AV.hf, hfL]
theorem power_px {n : Nat} (hn : n < 64) (H : Heap) : pcx (cbL tab) 167 [.int .i64 (n : Nat)] H = some (.plain (.int .u64 ((2 ^ n : Nat) : Int))) := by
  refine pcx_N rfl (pc_wp (fi := c167) rfl rfl (by simp [c167]) (by decide) ?_)
  unfold c167
  rw [List.map_cons, List.map_nil, lend_int]
  simp (disch := omega) only [wk, avalE, aactE, evPE, boundE, asNat, bv_seql cellsEq_ii, bv_sneqd cellsEq_ii, readC, allOne, fillL, resE, tupled, ↓reduceIte, Nat.reduceEqDiff, Int.reduceEq, Int.reduceLT, Int.reduceLE, Nat.reduceAdd, Nat.reduceMul, Nat.reduceLT, Nat.reduceLeDiff, reduceCtorEq]
  refine loop_ind (fun (j : Nat) E df H => j ≤ n ∧ E 0 = .int .i64 (n : Nat) ∧ E 3 = .int .u64 ((2 ^ j : Nat) : Int) ∧ E 4 = .int .i64 (j : Nat) ∧ df = [])
    (fun j => n - j) 0 (by decide) (.inl rfl) ⟨by omega, rfl, rfl, rfl, rfl⟩ ?_
  intro j E df H ih hP
  obtain ⟨a1, E0, E3, E4, hdf⟩ := hP
  subst hdf
  have hp : 2 ^ (j + 1) ≤ (2 : Nat) ^ 64 := Nat.pow_le_pow_right (by decide) (by omega)
  have hs : (2 : Nat) ^ (j + 1) = 2 * 2 ^ j := by rw [Nat.pow_succ, Nat.mul_comm]
  by_cases hj : j < n
  · have n1 : (j : Int) < (n : Int) := by omega
    have hq : 2 ^ (j + 1) ≤ (2 : Nat) ^ 63 := Nat.pow_le_pow_right (by decide) (by omega)
    have e : (2 : Int) * ((2 ^ j : Nat) : Int) = ((2 ^ (j + 1) : Nat) : Int) := by omega
    have w : IntKind.u64.wrap ((2 : Int) * ((2 ^ j : Nat) : Int)) = ((2 ^ (j + 1) : Nat) : Int) := by rw [e]; exact wrap_u64 (by omega) (by omega)
    have bm : ∀ {xo yo : X} {ek : EqK}, binV .mul ek xo yo (.int .u64 2) (.int .u64 ((2 ^ j : Nat) : Int)) = some (.int .u64 ((2 ^ (j + 1) : Nat) : Int)) := fun {xo yo ek} => by rw [← w]; rfl
    refine (?_ : _)
    generalize hA : (2 : Nat) ^ j = A at *
    generalize hB : (2 : Nat) ^ (j + 1) = B at *
    simp (disch := omega) only [wk, avalE, aactE, evPE, boundE, asNat, bv_seql cellsEq_ii, bv_sneqd cellsEq_ii, readC, allOne, fillL, resE, tupled, ↓reduceIte, Nat.reduceEqDiff, Int.reduceEq, Int.reduceLT, Int.reduceLE, Nat.reduceAdd, Nat.reduceMul, Nat.reduceLT, Nat.reduceLeDiff, reduceCtorEq, E0, E3, E4, n1, bm]
    exact ih (j + 1) _ _ _ (by omega) ⟨by omega, by simp only [en, ↓reduceIte, Nat.reduceEqDiff, E0], by simp only [en, ↓reduceIte, Nat.reduceEqDiff, hB], by simp only [en, ↓reduceIte, Nat.reduceEqDiff], rfl⟩
  · obtain rfl : j = n := by omega
    have n1 : ¬ (j : Int) < (j : Int) := by omega
    generalize hA : (2 : Nat) ^ j = A at *
    simp (disch := omega) only [wk, avalE, aactE, evPE, boundE, asNat, bv_seql cellsEq_ii, bv_sneqd cellsEq_ii, readC, allOne, fillL, resE, tupled, ↓reduceIte, Nat.reduceEqDiff, Int.reduceEq, Int.reduceLT, Int.reduceLE, Nat.reduceAdd, Nat.reduceMul, Nat.reduceLT, Nat.reduceLeDiff, reduceCtorEq, E0, E3, E4, n1, purify, unownT, lend, unown, AV.hf, hfL]
theorem rfield_px {w b : Nat} (hw : w < 18446744073709551616) (h1 : 1 ≤ b) (h2 : b ≤ 40) (H : Heap) : pcx (cbL tab) 133 [.int .u64 (w : Nat), .int .i64 (64 - (b : Int)), .int .i64 (b : Nat)] H = some (.plain (.int .u64 ((w / 2 ^ (64 - b) : Nat) : Int))) := by
  refine pcx_N rfl (pc_wp (fi := c133) rfl rfl (by simp [c133]) (by decide) ?_)
  unfold c133
  rw [List.map_cons, List.map_cons, List.map_cons, List.map_nil, lend_int, lend_int, lend_int]
  have pa : ∀ H, pcx (cbL tab) 167 [.int .i64 (64 - (b : Int))] H = some (.plain (.int .u64 ((2 ^ (64 - b) : Nat) : Int))) := fun H => by
    have := power_px (n := 64 - b) (by omega) H
    rwa [show ((64 - b : Nat) : Int) = 64 - (b : Int) by omega] at this
  have pb := fun H => power_px (n := b) (by omega) H
  obtain ⟨p1, p2, p3, p4⟩ := pows h2
  have hlt : w / 2 ^ (64 - b) < 2 ^ b := by
    rw [Nat.div_lt_iff_lt_mul (by omega), p1]
    exact hw
  have hle : w / 2 ^ (64 - b) ≤ w := Nat.div_le_self _ _
  have dv : (w : Int) / ((2 ^ (64 - b) : Nat) : Int) = ((w / 2 ^ (64 - b) : Nat) : Int) := (Int.natCast_ediv _ _).symm
  have md : ((w / 2 ^ (64 - b) : Nat) : Int) % ((2 ^ b : Nat) : Int) = ((w / 2 ^ (64 - b) : Nat) : Int) := by rw [← Int.natCast_emod, Nat.mod_eq_of_lt hlt]
  have n64 : ¬ (b : Int) = 64 := by omega
  generalize w / 2 ^ (64 - b) = R at *
  generalize (2 : Nat) ^ b = P at *
  generalize (2 : Nat) ^ (64 - b) = Q at *
  have q0 : ¬ (Q : Int) = 0 := by omega
  have q1 : ¬ (P : Int) = 0 := by omega
  simp (disch := omega) only [wk, avalE, aactE, evPE, boundE, asNat, bv_seql cellsEq_ii, bv_sneqd cellsEq_ii, readC, allOne, fillL, resE, tupled, ↓reduceIte, Nat.reduceEqDiff, Int.reduceEq, Int.reduceLT, Int.reduceLE, Nat.reduceAdd, Nat.reduceMul, Nat.reduceLT, Nat.reduceLeDiff, reduceCtorEq, pa, pb, dv, md, n64, q0, q1, purify, unownT, lend, unown, AV.hf, hfL]
end Go.Proofs.Ytailfegmnkldoaa
