/- THE WALKS OF FIELDS. No condition but those stated. -/
import Derived.Test.YtailfegmnkldoaaR2
set_option linter.unusedSimpArgs false
set_option linter.unusedVariables false
set_option linter.unusedSectionVars false
namespace Go.Proofs.Ytailfegmnkldoaa
open Go Go.Am Go.Rec
set_option maxHeartbeats 2000000
set_option maxRecDepth 10000
theorem ofInt_nat (a : Nat) : BitVec.ofInt IntKind.u64.bits (a : Int) = BitVec.ofNat 64 a := by
  show BitVec.ofInt 64 (a : Int) = _
  simp
theorem u64_and {xo yo : X} {ek : EqK} {a b : Nat} (ha : a < 18446744073709551616) : binV .and ek xo yo (.int .u64 a) (.int .u64 b) = some (.int .u64 ((a &&& b % 18446744073709551616 : Nat) : Int)) := by
  have e : binV .and ek xo yo (.int .u64 a) (.int .u64 b) = some (.int .u64 (IntKind.u64.wrap (BitVec.ofInt IntKind.u64.bits (a : Int) &&& BitVec.ofInt IntKind.u64.bits (b : Int)).toNat)) := rfl
  rw [e, ofInt_nat, ofInt_nat]
  have h2 : (BitVec.ofNat 64 a &&& BitVec.ofNat 64 b).toNat = a &&& b % 18446744073709551616 := by
    rw [BitVec.toNat_and, BitVec.toNat_ofNat, BitVec.toNat_ofNat]
    show a % 18446744073709551616 &&& b % 18446744073709551616 = _
    rw [Nat.mod_eq_of_lt ha]
  have h3 : (BitVec.ofNat 64 a &&& BitVec.ofNat 64 b).toNat < 18446744073709551616 := (BitVec.ofNat 64 a &&& BitVec.ofNat 64 b).isLt
  rw [h2] at h3
  show some (AV.int .u64 (IntKind.u64.wrap (BitVec.ofNat 64 a &&& BitVec.ofNat 64 b).toNat)) = _
  rw [h2, wrap_u64 (by omega) (by omega)]
theorem u64_or {xo yo : X} {ek : EqK} {a b : Nat} (ha : a < 18446744073709551616) (hb : b < 18446744073709551616) : binV .or ek xo yo (.int .u64 a) (.int .u64 b) = some (.int .u64 ((a ||| b : Nat) : Int)) := by
  have e : binV .or ek xo yo (.int .u64 a) (.int .u64 b) = some (.int .u64 (IntKind.u64.wrap (BitVec.ofInt IntKind.u64.bits (a : Int) ||| BitVec.ofInt IntKind.u64.bits (b : Int)).toNat)) := rfl
  rw [e, ofInt_nat, ofInt_nat]
  have h2 : (BitVec.ofNat 64 a ||| BitVec.ofNat 64 b).toNat = a ||| b := by
    rw [BitVec.toNat_or, BitVec.toNat_ofNat, BitVec.toNat_ofNat]
    show a % 18446744073709551616 ||| b % 18446744073709551616 = _
    rw [Nat.mod_eq_of_lt ha, Nat.mod_eq_of_lt hb]
  have h3 : (BitVec.ofNat 64 a ||| BitVec.ofNat 64 b).toNat < 18446744073709551616 := (BitVec.ofNat 64 a ||| BitVec.ofNat 64 b).isLt
  rw [h2] at h3
  show some (AV.int .u64 (IntKind.u64.wrap (BitVec.ofNat 64 a ||| BitVec.ofNat 64 b).toNat)) = _
  rw [h2, wrap_u64 (by omega) (by omega)]
/-- What is beside: by sum. -/
theorem u64_orE {xo yo : X} {ek : EqK} {a m : Int} (k : Nat) (h0 : 0 ≤ a) (ha : a < 2 ^ k) (hm : 0 ≤ m) (hl : a + m * 2 ^ k < 18446744073709551616) (hk : (0 : Int) ≤ m * 2 ^ k) :
    binV .or ek xo yo (.int .u64 a) (.int .u64 (m * 2 ^ k)) = some (.int .u64 (a + m * 2 ^ k)) := by
  obtain ⟨a, rfl⟩ := Int.eq_ofNat_of_zero_le h0
  obtain ⟨m, rfl⟩ := Int.eq_ofNat_of_zero_le hm
  have e : (m : Int) * 2 ^ k = ((m * 2 ^ k : Nat) : Int) := by simp
  rw [e] at hl hk ⊢
  have ha' : a < 2 ^ k := by
    have e2 : (2 : Int) ^ k = ((2 ^ k : Nat) : Int) := by simp
    rw [e2] at ha
    exact Int.ofNat_lt.1 ha
  rw [u64_or (by omega) (by omega)]
  have h1 := Nat.shiftLeft_add_eq_or_of_lt ha' m
  rw [Nat.shiftLeft_eq] at h1
  rw [Nat.or_comm, ← h1, Nat.add_comm]
  simp
theorem u64_shl {xo yo : X} {ek : EqK} {a b : Int} (hb : 0 ≤ b) (h64 : b ≤ 64) (h0 : 0 ≤ a * 2 ^ b.toNat) (hl : a * 2 ^ b.toNat < 18446744073709551616) {k : IntKind} : binV .shl ek xo yo (.int .u64 a) (.int k b) = some (.int .u64 (a * 2 ^ b.toNat)) := by
  have : ¬ b < 0 := by omega
  have m : min b.toNat IntKind.u64.bits = b.toNat := by show min b.toNat 64 = _; omega
  show binInt .shl .u64 a k b = _
  simp only [binInt, this, if_false, m]
  rw [wrap_u64 h0 hl]
theorem u64_shr {xo yo : X} {ek : EqK} {a b : Int} (hb : 0 ≤ b) (h64 : b ≤ 64) {k : IntKind} : binV .shr ek xo yo (.int .u64 a) (.int k b) = some (.int .u64 (a / 2 ^ b.toNat)) := by
  have : ¬ b < 0 := by omega
  have m : min b.toNat IntKind.u64.bits = b.toNat := by show min b.toNat 64 = _; omega
  show binInt .shr .u64 a k b = _
  simp only [binInt, this, if_false, m]
  rw [Int.fdiv_eq_ediv_of_nonneg _ (Int.pow_nonneg (by decide))]
def isPlain (v : Option PR) (n : Int) : Bool :=
  match v with
  | some (.plain (.int .u64 m)) => m == n
  | _ => false
theorem isPlain_eq {o : Option PR} {n : Int} (h : isPlain o n = true) : o = some (.plain (.int .u64 n)) := by
  unfold isPlain at h
  split at h
  · rw [eq_of_beq h]
  · cases h
theorem pcx_ev {f : FuncId} {args : List AV} {n : Int} (hl : (cbL tab).lent f = false) (h : isPlain ((cbs tab 10).pc f args) n = true) (H : Heap) : pcx (cbL tab) f args H = some (.plain (.int .u64 n)) := pcx_N hl (cbL_pc.2 ⟨10, isPlain_eq h⟩)
theorem pcx_evb {f : FuncId} {args : List AV} (hl : (cbL tab).lent f = false) (h : isTrueR ((cbs tab 10).pc f args) = true) (H : Heap) : pcx (cbL tab) f args H = some (.plain (.bool true)) := pcx_N hl (cbL_pc.2 ⟨10, isTrueR_eq h⟩)
theorem there1 (H : Heap) : pcx (cbL tab) 135 [.int .i64 16, .int .i64 8] H = some (.plain (.bool true)) := pcx_evb rfl (by kernel_rfl) H
theorem there0 (H : Heap) : pcx (cbL tab) 135 [.int .i64 0, .int .i64 16] H = some (.plain (.bool true)) := pcx_evb rfl (by kernel_rfl) H
theorem masked08 (H : Heap) : pcx (cbL tab) 136 [.int .i64 0, .int .i64 8] H = some (.plain (.int .u64 255)) := pcx_ev rfl (by kernel_rfl) H
theorem masked168 (H : Heap) : pcx (cbL tab) 136 [.int .i64 16, .int .i64 8] H = some (.plain (.int .u64 16711680)) := pcx_ev rfl (by kernel_rfl) H
theorem masked016 (H : Heap) : pcx (cbL tab) 136 [.int .i64 0, .int .i64 16] H = some (.plain (.int .u64 65535)) := pcx_ev rfl (by kernel_rfl) H
theorem of_px (m w : Nat) (hm : m < 18446744073709551616) (hw : w < 18446744073709551616) (H : Heap) : pcx (cbL tab) 137 [.int .u64 m, .int .u64 w] H = some (.plain (.int .u64 ((w &&& m : Nat) : Int))) := by
  refine pcx_N rfl (pc_wp (fi := c137) rfl rfl (by simp [c137]) (by decide) ?_)
  unfold c137
  rw [List.map_cons, List.map_cons, List.map_nil, lend_int, lend_int]
  have e := fun xo yo ek => u64_and (xo := xo) (yo := yo) (ek := ek) (b := m) hw
  rw [Nat.mod_eq_of_lt hm] at e
  simp (disch := omega) only [wk, avalE, aactE, evPE, boundE, asNat, bv_seql cellsEq_ii, bv_sneqd cellsEq_ii, readC, allOne, fillL, resE, tupled, ↓reduceIte, Nat.reduceEqDiff, Int.reduceEq, Int.reduceLT, Int.reduceLE, Nat.reduceAdd, Nat.reduceMul, Nat.reduceLT, Nat.reduceLeDiff, reduceCtorEq, e, purify, unownT, lend, AV.hf]
theorem ofm {w : Nat} {n : Nat} (hm : n < 18446744073709551616) (hw : w < 18446744073709551616) (H : Heap) : pcx (cbL tab) 137 [.int .u64 (n : Int), .int .u64 w] H = some (.plain (.int .u64 ((w &&& n : Nat) : Int))) := of_px n w hm hw H
theorem field0_px (w : Int) (h0 : 0 ≤ w) (h1 : w < 18446744073709551616) (H : Heap) : pcx (cbL tab) 81 [.int .u64 w, .int .i64 0, .int .i64 16] H = some (.plain (.tup [.int .u64 (w % 65536), .int .i64 0])) := by
  obtain ⟨w, rfl⟩ := Int.eq_ofNat_of_zero_le h0
  refine pcx_N rfl (pc_wp (fi := c81) rfl rfl (by simp [c81]) (by decide) ?_)
  unfold c81
  rw [List.map_cons, List.map_cons, List.map_cons, List.map_nil, lend_int, lend_int, lend_int]
  have t1 := fun H => there0 H
  have m1 := fun H => masked016 H
  have o1 := fun H => ofm (w := w) (n := 65535) (by decide) (by omega) H
  have c1 : ((65535 : Nat) : Int) = 65535 := rfl
  rw [c1] at o1
  have e : ((w &&& 65535 : Nat) : Int) = (w : Int) % 65536 := by
    rw [show w &&& 65535 = w % 65536 from Nat.and_two_pow_sub_one_eq_mod w 16]; rfl
  rw [e] at o1
  have s0 : ∀ xo yo ek (a : Int), binV .shr ek xo yo (.int .u64 a) (.int .i64 0) = some (.int .u64 a) := by
    intro xo yo ek a
    have := u64_shr (xo := xo) (yo := yo) (ek := ek) (a := a) (b := 0) (k := .i64) (by decide) (by decide)
    rw [this]
    show some (AV.int .u64 (a / 1)) = _
    rw [Int.ediv_one]
  simp (disch := omega) only [wk, avalE, aactE, evPE, boundE, asNat, bv_seql cellsEq_ii, bv_sneqd cellsEq_ii, readC, allOne, fillL, resE, tupled, ↓reduceIte, Nat.reduceEqDiff, Int.reduceEq, Int.reduceLT, Int.reduceLE, Nat.reduceAdd, Nat.reduceMul, Nat.reduceLT, Nat.reduceLeDiff, reduceCtorEq, t1, m1, o1, callee_bnd, s0, purify, unownT, lend, AV.hf, hfL, unown]
theorem field16_px (w : Int) (h0 : 0 ≤ w) (h1 : w < 18446744073709551616) (H : Heap) : pcx (cbL tab) 81 [.int .u64 w, .int .i64 16, .int .i64 8] H = some (.plain (.tup [.int .u64 (w / 65536 % 256), .int .i64 0])) := by
  obtain ⟨w, rfl⟩ := Int.eq_ofNat_of_zero_le h0
  refine pcx_N rfl (pc_wp (fi := c81) rfl rfl (by simp [c81]) (by decide) ?_)
  unfold c81
  rw [List.map_cons, List.map_cons, List.map_cons, List.map_nil, lend_int, lend_int, lend_int]
  have t1 := fun H => there1 H
  have m1 := fun H => masked168 H
  have o1 := fun H => ofm (w := w) (n := 16711680) (by decide) (by omega) H
  have c1 : ((16711680 : Nat) : Int) = 16711680 := rfl
  rw [c1] at o1
  have e : ((w &&& 16711680 : Nat) : Int) / 2 ^ (16 : Int).toNat = (w : Int) / 65536 % 256 := by
    have h1 : (w &&& 16711680) / 65536 = w / 65536 % 256 := by
      have h2 : (w &&& 16711680) >>> 16 = (w >>> 16) &&& (16711680 >>> 16) := Nat.shiftRight_and_distrib ..
      rw [Nat.shiftRight_eq_div_pow, Nat.shiftRight_eq_div_pow] at h2
      have h3 : w / 2 ^ 16 &&& (2 ^ 8 - 1) = w / 2 ^ 16 % 2 ^ 8 := Nat.and_two_pow_sub_one_eq_mod _ 8
      exact h2.trans h3
    have h4 : (2 : Int) ^ (16 : Int).toNat = ((65536 : Nat) : Int) := rfl
    rw [h4, ← Int.natCast_ediv, h1]
    simp
  have s0 := fun xo yo ek (a : Int) => u64_shr (xo := xo) (yo := yo) (ek := ek) (a := a) (b := 16) (k := .i64) (by decide) (by decide)
  simp (disch := omega) only [wk, avalE, aactE, evPE, boundE, asNat, bv_seql cellsEq_ii, bv_sneqd cellsEq_ii, readC, allOne, fillL, resE, tupled, ↓reduceIte, Nat.reduceEqDiff, Int.reduceEq, Int.reduceLT, Int.reduceLE, Nat.reduceAdd, Nat.reduceMul, Nat.reduceLT, Nat.reduceLeDiff, reduceCtorEq, t1, m1, o1, callee_bnd, s0, e, purify, unownT, lend, AV.hf, hfL, unown]
end Go.Proofs.Ytailfegmnkldoaa
