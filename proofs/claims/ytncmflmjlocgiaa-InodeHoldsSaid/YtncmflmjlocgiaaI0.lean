/- FIELDS OF WORDS. No condition but those stated. -/
import Derived.Test.YtncmflmjlocgiaaIM
import Derived.Test.YtncmflmjlocgiaaIW
set_option linter.unusedSimpArgs false
set_option linter.unusedVariables false
set_option linter.unusedSectionVars false
namespace Go.Proofs.Ytncmflmjlocgiaa
open Go Go.Am Go.Rec Go.Ino
set_option maxHeartbeats 2000000
set_option maxRecDepth 10000
theorem ofInt_nat (a : Nat) : BitVec.ofInt IntKind.u64.bits (a : Int) = BitVec.ofNat 64 a := by
  show BitVec.ofInt 64 (a : Int) = _
  simp
theorem u64_and {xo yo : X} {ek : EqK} {a b : Nat} (ha : a < 18446744073709551616) : binV .and ek xo yo (.int .u64 a) (.int .u64 b) = some (.int .u64 ((a &&& b % 18446744073709551616 : Nat) : Int)) := by
  have e : binV .and ek xo yo (.int .u64 a) (.int .u64 b) = some (.int .u64 (IntKind.u64.wrap (BitVec.ofInt IntKind.u64.bits (a : Int) &&& BitVec.ofInt IntKind.u64.bits (b : Int)).toNat)) := rfl
  rw [e, ofInt_nat, ofInt_nat]
  have h2 : (BitVec.ofNat 64 a &&& BitVec.ofNat 64 b).toNat = a &&& b % 18446744073709551616 := by
    rw [BitVec.toNat_and, BitVec.toNat_ofNat, BitVec.toNat_ofNat]
    show a % 18446744073709551616 &&& b % 18446744073709551616 = _
    rw [Nat.mod_eq_of_lt ha]
  have h3 : (BitVec.ofNat 64 a &&& BitVec.ofNat 64 b).toNat < 18446744073709551616 := (BitVec.ofNat 64 a &&& BitVec.ofNat 64 b).isLt
  rw [h2] at h3
  show some (AV.int .u64 (IntKind.u64.wrap (BitVec.ofNat 64 a &&& BitVec.ofNat 64 b).toNat)) = _
  rw [h2, wrap_u64 (by omega) (by omega)]
theorem u64_or {xo yo : X} {ek : EqK} {a b : Nat} (ha : a < 18446744073709551616) (hb : b < 18446744073709551616) : binV .or ek xo yo (.int .u64 a) (.int .u64 b) = some (.int .u64 ((a ||| b : Nat) : Int)) := by
  have e : binV .or ek xo yo (.int .u64 a) (.int .u64 b) = some (.int .u64 (IntKind.u64.wrap (BitVec.ofInt IntKind.u64.bits (a : Int) ||| BitVec.ofInt IntKind.u64.bits (b : Int)).toNat)) := rfl
  rw [e, ofInt_nat, ofInt_nat]
  have h2 : (BitVec.ofNat 64 a ||| BitVec.ofNat 64 b).toNat = a ||| b := by
    rw [BitVec.toNat_or, BitVec.toNat_ofNat, BitVec.toNat_ofNat]
    show a % 18446744073709551616 ||| b % 18446744073709551616 = _
    rw [Nat.mod_eq_of_lt ha, Nat.mod_eq_of_lt hb]
  have h3 : (BitVec.ofNat 64 a ||| BitVec.ofNat 64 b).toNat < 18446744073709551616 := (BitVec.ofNat 64 a ||| BitVec.ofNat 64 b).isLt
  rw [h2] at h3
  show some (AV.int .u64 (IntKind.u64.wrap (BitVec.ofNat 64 a ||| BitVec.ofNat 64 b).toNat)) = _
  rw [h2, wrap_u64 (by omega) (by omega)]
/-- What is beside: by sum. -/
theorem u64_orE {xo yo : X} {ek : EqK} {a m : Int} (k : Nat) (h0 : 0 ≤ a) (ha : a < 2 ^ k) (hm : 0 ≤ m) (hl : a + m * 2 ^ k < 18446744073709551616) (hk : (0 : Int) ≤ m * 2 ^ k) :
    binV .or ek xo yo (.int .u64 a) (.int .u64 (m * 2 ^ k)) = some (.int .u64 (a + m * 2 ^ k)) := by
  obtain ⟨a, rfl⟩ := Int.eq_ofNat_of_zero_le h0
  obtain ⟨m, rfl⟩ := Int.eq_ofNat_of_zero_le hm
  have e : (m : Int) * 2 ^ k = ((m * 2 ^ k : Nat) : Int) := by simp
  rw [e] at hl hk ⊢
  have ha' : a < 2 ^ k := by
    have e2 : (2 : Int) ^ k = ((2 ^ k : Nat) : Int) := by simp
    rw [e2] at ha
    exact Int.ofNat_lt.1 ha
  rw [u64_or (by omega) (by omega)]
  have h1 := Nat.shiftLeft_add_eq_or_of_lt ha' m
  rw [Nat.shiftLeft_eq] at h1
  rw [Nat.or_comm, ← h1, Nat.add_comm]
  simp
theorem u64_shl {xo yo : X} {ek : EqK} {a b : Int} (hb : 0 ≤ b) (h64 : b ≤ 64) (h0 : 0 ≤ a * 2 ^ b.toNat) (hl : a * 2 ^ b.toNat < 18446744073709551616) {k : IntKind} : binV .shl ek xo yo (.int .u64 a) (.int k b) = some (.int .u64 (a * 2 ^ b.toNat)) := by
  have : ¬ b < 0 := by omega
  have m : min b.toNat IntKind.u64.bits = b.toNat := by show min b.toNat 64 = _; omega
  show binInt .shl .u64 a k b = _
  simp only [binInt, this, if_false, m]
  rw [wrap_u64 h0 hl]
theorem u64_shr {xo yo : X} {ek : EqK} {a b : Int} (hb : 0 ≤ b) (h64 : b ≤ 64) {k : IntKind} : binV .shr ek xo yo (.int .u64 a) (.int k b) = some (.int .u64 (a / 2 ^ b.toNat)) := by
  have : ¬ b < 0 := by omega
  have m : min b.toNat IntKind.u64.bits = b.toNat := by show min b.toNat 64 = _; omega
  show binInt .shr .u64 a k b = _
  simp only [binInt, this, if_false, m]
  rw [Int.fdiv_eq_ediv_of_nonneg _ (Int.pow_nonneg (by decide))]
def isPlain (v : Option PR) (n : Int) : Bool :=
  match v with
  | some (.plain (.int .u64 m)) => m == n
  | _ => false
theorem isPlain_eq {o : Option PR} {n : Int} (h : isPlain o n = true) : o = some (.plain (.int .u64 n)) := by
  unfold isPlain at h
  split at h
  · rw [eq_of_beq h]
  · cases h
theorem pcx_ev {f : FuncId} {args : List AV} {n : Int} (hl : (cbL tab).lent f = false) (h : isPlain ((cbs tab 10).pc f args) n = true) (H : Heap) : pcx (cbL tab) f args H = some (.plain (.int .u64 n)) := pcx_N hl (cbL_pc.2 ⟨10, isPlain_eq h⟩)
theorem pcx_evb {f : FuncId} {args : List AV} (hl : (cbL tab).lent f = false) (h : isTrueR ((cbs tab 10).pc f args) = true) (H : Heap) : pcx (cbL tab) f args H = some (.plain (.bool true)) := pcx_N hl (cbL_pc.2 ⟨10, isTrueR_eq h⟩)
theorem inu_px (n lo hi : Int) (H : Heap) : pcx (cbL tab) 82 [.int .u64 n, .int .u64 lo, .int .u64 hi] H = some (.plain (.bool (decide (lo ≤ n ∧ n ≤ hi)))) := by
  refine pcx_N rfl (pc_wp (fi := c82) rfl rfl (by simp [c82]) (by decide) ?_)
  unfold c82
  rw [List.map_cons, List.map_cons, List.map_cons, List.map_nil, lend_int, lend_int, lend_int]
  by_cases h1 : lo ≤ n <;> by_cases h2 : n ≤ hi <;> simp (disch := omega) only [wk, avalE, aactE, evPE, boundE, asNat, bv_seql cellsEq_ii, bv_sneqd cellsEq_ii, readC, allOne, fillL, resE, tupled, ↓reduceIte, Nat.reduceEqDiff, Int.reduceEq, Int.reduceLT, Int.reduceLE, Nat.reduceAdd, Nat.reduceMul, Nat.reduceLT, Nat.reduceLeDiff, reduceCtorEq, h1, h2, purify, unownT, AV.hf, and_false, false_and]
theorem of_px (m w : Nat) (hm : m < 18446744073709551616) (hw : w < 18446744073709551616) (H : Heap) : pcx (cbL tab) 84 [.int .u64 m, .int .u64 w] H = some (.plain (.int .u64 ((w &&& m : Nat) : Int))) := by
  refine pcx_N rfl (pc_wp (fi := c84) rfl rfl (by simp [c84]) (by decide) ?_)
  unfold c84
  rw [List.map_cons, List.map_cons, List.map_nil, lend_int, lend_int]
  have e := fun xo yo ek => u64_and (xo := xo) (yo := yo) (ek := ek) (b := m) hw
  rw [Nat.mod_eq_of_lt hm] at e
  simp (disch := omega) only [wk, avalE, aactE, evPE, boundE, asNat, bv_seql cellsEq_ii, bv_sneqd cellsEq_ii, readC, allOne, fillL, resE, tupled, ↓reduceIte, Nat.reduceEqDiff, Int.reduceEq, Int.reduceLT, Int.reduceLE, Nat.reduceAdd, Nat.reduceMul, Nat.reduceLT, Nat.reduceLeDiff, reduceCtorEq, e, purify, unownT, AV.hf]
theorem ofm {w : Nat} {n : Nat} (hm : n < 18446744073709551616) (hw : w < 18446744073709551616) (H : Heap) : pcx (cbL tab) 84 [.int .u64 (n : Int), .int .u64 w] H = some (.plain (.int .u64 ((w &&& n : Nat) : Int))) := of_px n w hm hw H
/-- A mask. -/
def maskN (a d : Nat) : Nat := (2 ^ d - 1) * 2 ^ a
theorem maskN_bit (a d i : Nat) : (maskN a d).testBit i = (decide (a ≤ i) && decide (i < a + d)) := by
  unfold maskN
  rw [Nat.testBit_mul_two_pow]
  by_cases h : a ≤ i
  · simp only [h, decide_true, Bool.true_and, Nat.testBit_two_pow_sub_one, decide_eq_decide]
    omega
  · simp [h]
theorem maskN_and (a d w : Nat) : (w &&& maskN a d) / 2 ^ a = w / 2 ^ a % 2 ^ d := by
  apply Nat.eq_of_testBit_eq
  intro i
  rw [Nat.testBit_div_two_pow, Nat.testBit_and, maskN_bit, Nat.testBit_mod_two_pow, Nat.testBit_div_two_pow]
  have h1 : decide (a ≤ i + a) = true := by simp
  have h2 : decide (i + a < a + d) = decide (i < d) := by simp only [decide_eq_decide]; omega
  rw [h1, h2, Bool.true_and, Bool.and_comm]
theorem maskN_not (a d w : Nat) (hw : w < 2 ^ (a + d)) (h64 : a + d ≤ 64) : (BitVec.ofNat 64 w &&& ~~~ BitVec.ofNat 64 (w &&& maskN a d)).toNat = w % 2 ^ a := by
  have hlt : w < 2 ^ 64 := Nat.lt_of_lt_of_le hw (Nat.pow_le_pow_right (by decide) h64)
  apply Nat.eq_of_testBit_eq
  intro i
  rw [Nat.testBit_mod_two_pow, BitVec.testBit_toNat, BitVec.getLsbD_and, BitVec.getLsbD_not, BitVec.getLsbD_ofNat, BitVec.getLsbD_ofNat, Nat.testBit_and, maskN_bit]
  by_cases hi : i < a + d
  · have h1 : decide (i < 64) = true := by simp; omega
    simp only [h1, hi, decide_true, Bool.true_and, Bool.and_true]
    by_cases ha : a ≤ i
    · have : ¬ i < a := by omega
      simp only [ha, this, decide_true, decide_false, Bool.and_true, Bool.false_and]
      cases w.testBit i <;> rfl
    · have : i < a := by omega
      simp only [ha, this, decide_true, decide_false, Bool.and_false, Bool.not_false, Bool.and_true, Bool.true_and]
  · have : w.testBit i = false := Nat.testBit_lt_two_pow (Nat.lt_of_lt_of_le hw (Nat.pow_le_pow_right (by decide) (by omega)))
    simp [this]
theorem field_gen (a d : Nat) (w : Int) (h0 : 0 ≤ w) (h1 : w < 18446744073709551616) (ha : a ≤ 64) (hm : maskN a d < 18446744073709551616)
    (t1 : ∀ H, pcx (cbL tab) 81 [.int .i64 a, .int .i64 d] H = some (.plain (.bool true)))
    (m1 : ∀ H, pcx (cbL tab) 83 [.int .i64 a, .int .i64 d] H = some (.plain (.int .u64 ((maskN a d : Nat) : Int)))) (H : Heap) :
    pcx (cbL tab) 53 [.int .u64 w, .int .i64 a, .int .i64 d] H = some (.plain (.tup [.int .u64 (w / 2 ^ a % 2 ^ d), .int .i64 0])) := by
  obtain ⟨w, rfl⟩ := Int.eq_ofNat_of_zero_le h0
  refine pcx_N rfl (pc_wp (fi := c53) rfl rfl (by simp [c53]) (by decide) ?_)
  unfold c53
  rw [List.map_cons, List.map_cons, List.map_cons, List.map_nil, lend_int, lend_int, lend_int]
  have o1 := fun H => ofm (w := w) (n := maskN a d) hm (by omega) H
  have s0 := fun xo yo ek => u64_shr (xo := xo) (yo := yo) (ek := ek) (a := ((w &&& maskN a d : Nat) : Int)) (b := (a : Int)) (k := .i64) (by omega) (by omega)
  have e : ((w &&& maskN a d : Nat) : Int) / 2 ^ ((a : Int)).toNat = (w : Int) / 2 ^ a % 2 ^ d := by
    have h := maskN_and a d w
    rw [Int.toNat_natCast]
    have e2 : (2 : Int) ^ a = ((2 ^ a : Nat) : Int) := by simp
    have e3 : (2 : Int) ^ d = ((2 ^ d : Nat) : Int) := by simp
    rw [e2, e3, ← Int.natCast_ediv, h, ← Int.natCast_ediv, ← Int.natCast_emod]
  rw [e] at s0
  simp (disch := omega) only [wk, avalE, aactE, evPE, boundE, asNat, bv_seql cellsEq_ii, bv_sneqd cellsEq_ii, readC, allOne, fillL, resE, tupled, ↓reduceIte, Nat.reduceEqDiff, Int.reduceEq, Int.reduceLT, Int.reduceLE, Nat.reduceAdd, Nat.reduceMul, Nat.reduceLT, Nat.reduceLeDiff, reduceCtorEq, t1, m1, o1, callee_bnd, s0, purify, unownT, AV.hf, hfL, unown]
theorem with_gen (a d : Nat) (w v : Int) (h0 : 0 ≤ w) (h1 : w < 2 ^ (a + d)) (had : a + d ≤ 64) (hd : d < 64) (v0 : 0 ≤ v) (v1 : v < 2 ^ d)
    (t1 : ∀ H, pcx (cbL tab) 81 [.int .i64 a, .int .i64 d] H = some (.plain (.bool true)))
    (m1 : ∀ H, pcx (cbL tab) 83 [.int .i64 a, .int .i64 d] H = some (.plain (.int .u64 ((maskN a d : Nat) : Int))))
    (m2 : ∀ H, pcx (cbL tab) 83 [.int .i64 0, .int .i64 d] H = some (.plain (.int .u64 (2 ^ d - 1)))) (H : Heap) :
    pcx (cbL tab) 47 [.int .u64 w, .int .i64 a, .int .i64 d, .int .u64 v] H = some (.plain (.tup [.int .u64 (w % 2 ^ a + v * 2 ^ a), .int .i64 0])) := by
  refine pcx_N rfl (pc_wp (fi := c47) rfl rfl (by simp [c47]) (by decide) ?_)
  unfold c47
  rw [List.map_cons, List.map_cons, List.map_cons, List.map_cons, List.map_nil, lend_int, lend_int, lend_int, lend_int]
  have i1 := fun H => inu_px v 0 (2 ^ d - 1) H
  have i2 : 0 ≤ v ∧ v ≤ 2 ^ d - 1 := by omega
  obtain ⟨w, rfl⟩ := Int.eq_ofNat_of_zero_le h0
  have hwn : w < 2 ^ (a + d) := by
    have e2 : (2 : Int) ^ (a + d) = ((2 ^ (a + d) : Nat) : Int) := by simp
    rw [e2] at h1
    exact Int.ofNat_lt.1 h1
  have p64 : 2 ^ (a + d) ≤ 2 ^ 64 := Nat.pow_le_pow_right (by decide) had
  have hw64 : w < 18446744073709551616 := Nat.lt_of_lt_of_le hwn p64
  have hm : maskN a d < 18446744073709551616 := by
    refine Nat.lt_of_lt_of_le ?_ p64
    unfold maskN
    rw [Nat.add_comm, Nat.pow_add]
    exact Nat.mul_lt_mul_of_pos_right (Nat.sub_lt (Nat.two_pow_pos d) (by decide)) (Nat.two_pow_pos a)
  have o1 := fun H => ofm (w := w) (n := maskN a d) hm hw64 H
  have an : ∀ xo yo ek, binV .andNot ek xo yo (.int .u64 (w : Int)) (.int .u64 ((w &&& maskN a d : Nat) : Int)) = some (.int .u64 ((w % 2 ^ a : Nat) : Int)) := by
    intro xo yo ek
    have e : binV .andNot ek xo yo (.int .u64 (w : Int)) (.int .u64 ((w &&& maskN a d : Nat) : Int)) = some (.int .u64 (IntKind.u64.wrap (BitVec.ofInt IntKind.u64.bits (w : Int) &&& ~~~ BitVec.ofInt IntKind.u64.bits ((w &&& maskN a d : Nat) : Int)).toNat)) := rfl
    rw [e, ofInt_nat, ofInt_nat]
    show some (AV.int .u64 (IntKind.u64.wrap (BitVec.ofNat 64 w &&& ~~~ BitVec.ofNat 64 (w &&& maskN a d)).toNat)) = _
    rw [maskN_not a d w hwn had, wrap_u64 (by omega) (by have := Nat.mod_le w (2 ^ a); omega)]
  have pp : (0 : Int) < 2 ^ a := Int.pow_pos (by decide)
  have vm : 0 ≤ v * 2 ^ a := Int.mul_nonneg v0 (Int.le_of_lt pp)
  have vlt : v * 2 ^ a + 2 ^ a ≤ 18446744073709551616 := by
    have e1 : (v + 1) * 2 ^ a ≤ 2 ^ d * 2 ^ a := Int.mul_le_mul_of_nonneg_right (by omega) (Int.le_of_lt pp)
    have e2 : (2 : Int) ^ d * 2 ^ a = ((2 ^ (a + d) : Nat) : Int) := by rw [← Int.pow_add, Nat.add_comm]; simp
    have e3 : ((2 ^ (a + d) : Nat) : Int) ≤ 18446744073709551616 := by
      have := Int.ofNat_le.2 p64
      simpa using this
    rw [e2] at e1
    rw [Int.add_mul, Int.one_mul] at e1
    omega
  have ml : (w : Int) % 2 ^ a < 2 ^ a := Int.emod_lt_of_pos _ pp
  have ml0 : 0 ≤ (w : Int) % 2 ^ a := Int.emod_nonneg _ (Int.ne_of_gt pp)
  have sh := fun xo yo ek => u64_shl (xo := xo) (yo := yo) (ek := ek) (a := v) (b := (a : Int)) (k := .i64) (by omega) (by omega) (by rw [Int.toNat_natCast]; exact vm) (by rw [Int.toNat_natCast]; omega)
  have ec : ((w % 2 ^ a : Nat) : Int) = (w : Int) % 2 ^ a := by simp
  rw [ec] at an
  have sor := fun xo yo ek => u64_orE (xo := xo) (yo := yo) (ek := ek) (a := (w : Int) % 2 ^ a) (m := v) a ml0 ml v0 (by omega) vm
  simp only [Int.toNat_natCast] at sh
  simp (disch := omega) only [wk, avalE, aactE, evPE, boundE, asNat, bv_seql cellsEq_ii, bv_sneqd cellsEq_ii, readC, allOne, fillL, resE, tupled, ↓reduceIte, Nat.reduceEqDiff, Int.reduceEq, Int.reduceLT, Int.reduceLE, Nat.reduceAdd, Nat.reduceMul, Nat.reduceLT, Nat.reduceLeDiff, reduceCtorEq, t1, m1, m2, i1, i2, o1, callee_bnd, an, sh, sor, purify, unownT, AV.hf, hfL, unown]
end Go.Proofs.Ytncmflmjlocgiaa
