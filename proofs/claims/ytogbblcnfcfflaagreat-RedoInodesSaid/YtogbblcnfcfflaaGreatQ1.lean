/- TEXTS OF THE WALKS, put together: IW I0 I1 I2 I3 E3 E4 E6 E8 D1 B2 M1 B1 KE E9 E10 N1 N2 N3 N4 N5 N0 N8. No condition but those stated. -/
import Derived.Test.YtogbblcnfcfflaaGreatAmSet
import Derived.Test.YtogbblcnfcfflaaGreatIFuns
import Derived.KernelRfl
import Derived.Test.YtogbblcnfcfflaaGreatP1
import Derived.Test.YtogbblcnfcfflaaGreatAmFast
import Derived.Test.YtogbblcnfcfflaaGreatAmRng
open Int (reduceEq)
open Nat (reduceEqDiff reduceAdd reduceMul reduceLT reduceLeDiff)
set_option linter.all false
set_option maxHeartbeats 8000000
set_option maxRecDepth 1000000
namespace Go.Proofs.YtogbblcnfcfflaaGreat
open Go Go.Am
def isTrueR : Option PR -> Bool
 | some (.plain (.bool true)) => true
 | _ => false
theorem isTrueR_eq {o : Option PR} (h : isTrueR o = true) : o = some (.plain (.bool true)) := by
 unfold isTrueR at h
 split at h
 . rfl
 . cases h
end Go.Proofs.YtogbblcnfcfflaaGreat
namespace Go.Proofs.YtogbblcnfcfflaaGreat
open Go Go.Am Go.Rec Go.Ino
theorem ofInt_nat (a : Nat) : BitVec.ofInt IntKind.u64.bits (a : Int) = BitVec.ofNat 64 a := by
 show BitVec.ofInt 64 (a : Int) = _
 simp
theorem u64_and {xo yo : X} {ek : EqK} {a b : Nat} (ha : a < 18446744073709551616) : binV .and ek xo yo (.int .u64 a) (.int .u64 b) = some (.int .u64 ((a &&& b % 18446744073709551616 : Nat) : Int)) := by
 have e : binV .and ek xo yo (.int .u64 a) (.int .u64 b) = some (.int .u64 (IntKind.u64.wrap (BitVec.ofInt IntKind.u64.bits (a : Int) &&& BitVec.ofInt IntKind.u64.bits (b : Int)).toNat)) := rfl
 rw [e,ofInt_nat,ofInt_nat]
 have h2 : (BitVec.ofNat 64 a &&& BitVec.ofNat 64 b).toNat = a &&& b % 18446744073709551616 := by
   rw [BitVec.toNat_and,BitVec.toNat_ofNat,BitVec.toNat_ofNat]
   show a % 18446744073709551616 &&& b % 18446744073709551616 = _
   rw [Nat.mod_eq_of_lt ha]
 have h3 : (BitVec.ofNat 64 a &&& BitVec.ofNat 64 b).toNat < 18446744073709551616 := (BitVec.ofNat 64 a &&& BitVec.ofNat 64 b).isLt
 rw [h2] at h3
 show some (AV.int .u64 (IntKind.u64.wrap (BitVec.ofNat 64 a &&& BitVec.ofNat 64 b).toNat)) = _
 rw [h2,wrap_u64 (by omega) (by omega)]
theorem u64_or {xo yo : X} {ek : EqK} {a b : Nat} (ha : a < 18446744073709551616) (hb : b < 18446744073709551616) : binV .or ek xo yo (.int .u64 a) (.int .u64 b) = some (.int .u64 ((a ||| b : Nat) : Int)) := by
 have e : binV .or ek xo yo (.int .u64 a) (.int .u64 b) = some (.int .u64 (IntKind.u64.wrap (BitVec.ofInt IntKind.u64.bits (a : Int) ||| BitVec.ofInt IntKind.u64.bits (b : Int)).toNat)) := rfl
 rw [e,ofInt_nat,ofInt_nat]
 have h2 : (BitVec.ofNat 64 a ||| BitVec.ofNat 64 b).toNat = a ||| b := by
   rw [BitVec.toNat_or,BitVec.toNat_ofNat,BitVec.toNat_ofNat]
   show a % 18446744073709551616 ||| b % 18446744073709551616 = _
   rw [Nat.mod_eq_of_lt ha,Nat.mod_eq_of_lt hb]
 have h3 : (BitVec.ofNat 64 a ||| BitVec.ofNat 64 b).toNat < 18446744073709551616 := (BitVec.ofNat 64 a ||| BitVec.ofNat 64 b).isLt
 rw [h2] at h3
 show some (AV.int .u64 (IntKind.u64.wrap (BitVec.ofNat 64 a ||| BitVec.ofNat 64 b).toNat)) = _
 rw [h2,wrap_u64 (by omega) (by omega)]
theorem u64_orE {xo yo : X} {ek : EqK} {a m : Int} (k : Nat) (h0 : 0 <= a) (ha : a < 2 ^ k) (hm : 0 <= m) (hl : a + m * 2 ^ k < 18446744073709551616) (hk : (0 : Int) <= m * 2 ^ k) :
   binV .or ek xo yo (.int .u64 a) (.int .u64 (m * 2 ^ k)) = some (.int .u64 (a + m * 2 ^ k)) := by
 obtain ⟨a,rfl⟩ := Int.eq_ofNat_of_zero_le h0
 obtain ⟨m,rfl⟩ := Int.eq_ofNat_of_zero_le hm
 have e : (m : Int) * 2 ^ k = ((m * 2 ^ k : Nat) : Int) := by simp
 rw [e] at hl hk ⊢
 have ha' : a < 2 ^ k := by
   have e2 : (2 : Int) ^ k = ((2 ^ k : Nat) : Int) := by simp
   rw [e2] at ha
   exact Int.ofNat_lt.1 ha
 rw [u64_or (by omega) (by omega)]
 have h1 := Nat.shiftLeft_add_eq_or_of_lt ha' m
 rw [Nat.shiftLeft_eq] at h1
 rw [Nat.or_comm,<- h1,Nat.add_comm]
 simp
theorem u64_shl {xo yo : X} {ek : EqK} {a b : Int} (hb : 0 <= b) (h64 : b <= 64) (h0 : 0 <= a * 2 ^ b.toNat) (hl : a * 2 ^ b.toNat < 18446744073709551616) {k : IntKind} : binV .shl ek xo yo (.int .u64 a) (.int k b) = some (.int .u64 (a * 2 ^ b.toNat)) := by
 have : ¬ b < 0 := by omega
 have m : min b.toNat IntKind.u64.bits = b.toNat := by show min b.toNat 64 = _; omega
 show binInt .shl .u64 a k b = _
 simp only [binInt,this,if_false,m]
 rw [wrap_u64 h0 hl]
theorem u64_shr {xo yo : X} {ek : EqK} {a b : Int} (hb : 0 <= b) (h64 : b <= 64) {k : IntKind} : binV .shr ek xo yo (.int .u64 a) (.int k b) = some (.int .u64 (a / 2 ^ b.toNat)) := by
 have : ¬ b < 0 := by omega
 have m : min b.toNat IntKind.u64.bits = b.toNat := by show min b.toNat 64 = _; omega
 show binInt .shr .u64 a k b = _
 simp only [binInt,this,if_false,m]
 rw [Int.fdiv_eq_ediv_of_nonneg _ (Int.pow_nonneg (by decide))]
def isPlain (v : Option PR) (n : Int) : Bool :=
 match v with
 | some (.plain (.int .u64 m)) => m == n
 | _ => false
theorem isPlain_eq {o : Option PR} {n : Int} (h : isPlain o n = true) : o = some (.plain (.int .u64 n)) := by
 unfold isPlain at h
 split at h
 . rw [eq_of_beq h]
 . cases h
theorem pcx_ev {f : FuncId} {args : List AV} {n : Int} (hl : (cbL tab).lent f = false) (h : isPlain ((cbs tab 10).pc f args) n = true) (H : Heap) : pcx (cbL tab) f args H = some (.plain (.int .u64 n)) := pcx_N hl (cbL_pc.2 ⟨10,isPlain_eq h⟩)
theorem pcx_evb {f : FuncId} {args : List AV} (hl : (cbL tab).lent f = false) (h : isTrueR ((cbs tab 10).pc f args) = true) (H : Heap) : pcx (cbL tab) f args H = some (.plain (.bool true)) := pcx_N hl (cbL_pc.2 ⟨10,isTrueR_eq h⟩)
theorem inu_px (n lo hi : Int) (H : Heap) : pcx (cbL tab) 281 [.int .u64 n,.int .u64 lo,.int .u64 hi] H = some (.plain (.bool (decide (lo <= n /\ n <= hi)))) := by
 refine pcx_N rfl (pc_wp (fi := c281) rfl rfl (by simp [c281]) (by decide) ?_)
 unfold c281
 rw [List.map_cons,List.map_cons,List.map_cons,List.map_nil,lend_int,lend_int,lend_int]
 by_cases h1 : lo <= n <;> by_cases h2 : n <= hi <;> simp (disch := omega) only [wk,tupled,↓reduceIte,reduceEqDiff,reduceEq,reduceAdd,reduceCtorEq,h1,h2,purify,unownT,lend,unown,AV.hf,and_false,false_and]
theorem of_px (m w : Nat) (hm : m < 18446744073709551616) (hw : w < 18446744073709551616) (H : Heap) : pcx (cbL tab) 229 [.int .u64 m,.int .u64 w] H = some (.plain (.int .u64 ((w &&& m : Nat) : Int))) := by
 refine pcx_N rfl (pc_wp (fi := c229) rfl rfl (by simp [c229]) (by decide) ?_)
 unfold c229
 rw [List.map_cons,List.map_cons,List.map_nil,lend_int,lend_int]
 have e := fun xo yo ek => u64_and (xo := xo) (yo := yo) (ek := ek) (b := m) hw
 rw [Nat.mod_eq_of_lt hm] at e
 simp (disch := omega) only [wk,tupled,↓reduceIte,reduceEqDiff,reduceEq,reduceAdd,reduceCtorEq,e,purify,unownT,lend,unown,AV.hf]
theorem ofm {w : Nat} {n : Nat} (hm : n < 18446744073709551616) (hw : w < 18446744073709551616) (H : Heap) : pcx (cbL tab) 229 [.int .u64 (n : Int),.int .u64 w] H = some (.plain (.int .u64 ((w &&& n : Nat) : Int))) := of_px n w hm hw H
def maskN (a d : Nat) : Nat := (2 ^ d - 1) * 2 ^ a
theorem maskN_bit (a d i : Nat) : (maskN a d).testBit i = (decide (a <= i) && decide (i < a + d)) := by
 unfold maskN
 rw [Nat.testBit_mul_two_pow]
 by_cases h : a <= i
 . simp only [h,decide_true,Bool.true_and,Nat.testBit_two_pow_sub_one,decide_eq_decide]
   omega
 . simp [h]
theorem maskN_and (a d w : Nat) : (w &&& maskN a d) / 2 ^ a = w / 2 ^ a % 2 ^ d := by
 apply Nat.eq_of_testBit_eq
 intro i
 rw [Nat.testBit_div_two_pow,Nat.testBit_and,maskN_bit,Nat.testBit_mod_two_pow,Nat.testBit_div_two_pow]
 have h1 : decide (a <= i + a) = true := by simp
 have h2 : decide (i + a < a + d) = decide (i < d) := by simp only [decide_eq_decide]; omega
 rw [h1,h2,Bool.true_and,Bool.and_comm]
theorem maskN_not (a d w : Nat) (hw : w < 2 ^ (a + d)) (h64 : a + d <= 64) : (BitVec.ofNat 64 w &&& ~~~ BitVec.ofNat 64 (w &&& maskN a d)).toNat = w % 2 ^ a := by
 have hlt : w < 2 ^ 64 := Nat.lt_of_lt_of_le hw (Nat.pow_le_pow_right (by decide) h64)
 apply Nat.eq_of_testBit_eq
 intro i
 rw [Nat.testBit_mod_two_pow,BitVec.testBit_toNat,BitVec.getLsbD_and,BitVec.getLsbD_not,BitVec.getLsbD_ofNat,BitVec.getLsbD_ofNat,Nat.testBit_and,maskN_bit]
 by_cases hi : i < a + d
 . have h1 : decide (i < 64) = true := by simp; omega
   simp only [h1,hi,decide_true,Bool.true_and,Bool.and_true]
   by_cases ha : a <= i
   . have : ¬ i < a := by omega
     simp only [ha,this,decide_true,decide_false,Bool.and_true,Bool.false_and]
     cases w.testBit i <;> rfl
   . have : i < a := by omega
     simp only [ha,this,decide_true,decide_false,Bool.and_false,Bool.not_false,Bool.and_true,Bool.true_and]
 . have : w.testBit i = false := Nat.testBit_lt_two_pow (Nat.lt_of_lt_of_le hw (Nat.pow_le_pow_right (by decide) (by omega)))
   simp [this]
theorem field_gen (a d : Nat) (w : Int) (h0 : 0 <= w) (h1 : w < 18446744073709551616) (ha : a <= 64) (hm : maskN a d < 18446744073709551616)
   (t1 : ∀ H,pcx (cbL tab) 227 [.int .i64 a,.int .i64 d] H = some (.plain (.bool true)))
   (m1 : ∀ H,pcx (cbL tab) 228 [.int .i64 a,.int .i64 d] H = some (.plain (.int .u64 ((maskN a d : Nat) : Int)))) (H : Heap) :
   pcx (cbL tab) 187 [.int .u64 w,.int .i64 a,.int .i64 d] H = some (.plain (.tup [.int .u64 (w / 2 ^ a % 2 ^ d),.int .i64 0])) := by
 obtain ⟨w,rfl⟩ := Int.eq_ofNat_of_zero_le h0
 refine pcx_N rfl (pc_wp (fi := c187) rfl rfl (by simp [c187]) (by decide) ?_)
 unfold c187
 rw [List.map_cons,List.map_cons,List.map_cons,List.map_nil,lend_int,lend_int,lend_int]
 have o1 := fun H => ofm (w := w) (n := maskN a d) hm (by omega) H
 have s0 := fun xo yo ek => u64_shr (xo := xo) (yo := yo) (ek := ek) (a := ((w &&& maskN a d : Nat) : Int)) (b := (a : Int)) (k := .i64) (by omega) (by omega)
 have e : ((w &&& maskN a d : Nat) : Int) / 2 ^ ((a : Int)).toNat = (w : Int) / 2 ^ a % 2 ^ d := by
   have h := maskN_and a d w
   rw [Int.toNat_natCast]
   have e2 : (2 : Int) ^ a = ((2 ^ a : Nat) : Int) := by simp
   have e3 : (2 : Int) ^ d = ((2 ^ d : Nat) : Int) := by simp
   rw [e2,e3,<- Int.natCast_ediv,h,<- Int.natCast_ediv,<- Int.natCast_emod]
 rw [e] at s0
 simp (disch := omega) only [wk,tupled,↓reduceIte,reduceEqDiff,reduceEq,reduceAdd,reduceCtorEq,t1,m1,o1,callee_bnd,s0,purify,unownT,lend,unown,AV.hf,hfL,unown]
theorem with_gen (a d : Nat) (w v : Int) (h0 : 0 <= w) (h1 : w < 2 ^ (a + d)) (had : a + d <= 64) (hd : d < 64) (v0 : 0 <= v) (v1 : v < 2 ^ d)
   (t1 : ∀ H,pcx (cbL tab) 227 [.int .i64 a,.int .i64 d] H = some (.plain (.bool true)))
   (m1 : ∀ H,pcx (cbL tab) 228 [.int .i64 a,.int .i64 d] H = some (.plain (.int .u64 ((maskN a d : Nat) : Int))))
   (m2 : ∀ H,pcx (cbL tab) 228 [.int .i64 0,.int .i64 d] H = some (.plain (.int .u64 (2 ^ d - 1)))) (H : Heap) :
   pcx (cbL tab) 258 [.int .u64 w,.int .i64 a,.int .i64 d,.int .u64 v] H = some (.plain (.tup [.int .u64 (w % 2 ^ a + v * 2 ^ a),.int .i64 0])) := by
 refine pcx_N rfl (pc_wp (fi := c258) rfl rfl (by simp [c258]) (by decide) ?_)
 unfold c258
 rw [List.map_cons,List.map_cons,List.map_cons,List.map_cons,List.map_nil,lend_int,lend_int,lend_int,lend_int]
 have i1 := fun H => inu_px v 0 (2 ^ d - 1) H
 have i2 : 0 <= v /\ v <= 2 ^ d - 1 := by omega
 obtain ⟨w,rfl⟩ := Int.eq_ofNat_of_zero_le h0
 have hwn : w < 2 ^ (a + d) := by
   have e2 : (2 : Int) ^ (a + d) = ((2 ^ (a + d) : Nat) : Int) := by simp
   rw [e2] at h1
   exact Int.ofNat_lt.1 h1
 have p64 : 2 ^ (a + d) <= 2 ^ 64 := Nat.pow_le_pow_right (by decide) had
 have hw64 : w < 18446744073709551616 := Nat.lt_of_lt_of_le hwn p64
 have hm : maskN a d < 18446744073709551616 := by
   refine Nat.lt_of_lt_of_le ?_ p64
   unfold maskN
   rw [Nat.add_comm,Nat.pow_add]
   exact Nat.mul_lt_mul_of_pos_right (Nat.sub_lt (Nat.two_pow_pos d) (by decide)) (Nat.two_pow_pos a)
 have o1 := fun H => ofm (w := w) (n := maskN a d) hm hw64 H
 have an : ∀ xo yo ek,binV .andNot ek xo yo (.int .u64 (w : Int)) (.int .u64 ((w &&& maskN a d : Nat) : Int)) = some (.int .u64 ((w % 2 ^ a : Nat) : Int)) := by
   intro xo yo ek
   have e : binV .andNot ek xo yo (.int .u64 (w : Int)) (.int .u64 ((w &&& maskN a d : Nat) : Int)) = some (.int .u64 (IntKind.u64.wrap (BitVec.ofInt IntKind.u64.bits (w : Int) &&& ~~~ BitVec.ofInt IntKind.u64.bits ((w &&& maskN a d : Nat) : Int)).toNat)) := rfl
   rw [e,ofInt_nat,ofInt_nat]
   show some (AV.int .u64 (IntKind.u64.wrap (BitVec.ofNat 64 w &&& ~~~ BitVec.ofNat 64 (w &&& maskN a d)).toNat)) = _
   rw [maskN_not a d w hwn had,wrap_u64 (by omega) (by have := Nat.mod_le w (2 ^ a); omega)]
 have pp : (0 : Int) < 2 ^ a := Int.pow_pos (by decide)
 have vm : 0 <= v * 2 ^ a := Int.mul_nonneg v0 (Int.le_of_lt pp)
 have vlt : v * 2 ^ a + 2 ^ a <= 18446744073709551616 := by
   have e1 : (v + 1) * 2 ^ a <= 2 ^ d * 2 ^ a := Int.mul_le_mul_of_nonneg_right (by omega) (Int.le_of_lt pp)
   have e2 : (2 : Int) ^ d * 2 ^ a = ((2 ^ (a + d) : Nat) : Int) := by rw [<- Int.pow_add,Nat.add_comm]; simp
   have e3 : ((2 ^ (a + d) : Nat) : Int) <= 18446744073709551616 := by
     have := Int.ofNat_le.2 p64
     simpa using this
   rw [e2] at e1
   rw [Int.add_mul,Int.one_mul] at e1
   omega
 have ml : (w : Int) % 2 ^ a < 2 ^ a := Int.emod_lt_of_pos _ pp
 have ml0 : 0 <= (w : Int) % 2 ^ a := Int.emod_nonneg _ (Int.ne_of_gt pp)
 have sh := fun xo yo ek => u64_shl (xo := xo) (yo := yo) (ek := ek) (a := v) (b := (a : Int)) (k := .i64) (by omega) (by omega) (by rw [Int.toNat_natCast]; exact vm) (by rw [Int.toNat_natCast]; omega)
 have ec : ((w % 2 ^ a : Nat) : Int) = (w : Int) % 2 ^ a := by simp
 rw [ec] at an
 have sor := fun xo yo ek => u64_orE (xo := xo) (yo := yo) (ek := ek) (a := (w : Int) % 2 ^ a) (m := v) a ml0 ml v0 (by omega) vm
 simp only [Int.toNat_natCast] at sh
 simp (disch := omega) only [wk,tupled,↓reduceIte,reduceEqDiff,reduceEq,reduceAdd,reduceCtorEq,t1,m1,m2,i1,i2,o1,callee_bnd,an,sh,sor,purify,unownT,lend,unown,AV.hf,hfL,unown]
theorem ini_px (n lo hi : Int) (H : Heap) : pcx (cbL tab) 236 [.int .i64 n,.int .i64 lo,.int .i64 hi] H = some (.plain (.bool (decide (lo <= n /\ n <= hi)))) := by
 refine pcx_N rfl (pc_wp (fi := c236) rfl rfl (by simp [c236]) (by decide) ?_)
 unfold c236
 rw [List.map_cons,List.map_cons,List.map_cons,List.map_nil,lend_int,lend_int,lend_int]
 by_cases h1 : lo <= n <;> by_cases h2 : n <= hi <;> simp (disch := omega) only [wk,tupled,↓reduceIte,reduceEqDiff,reduceEq,reduceAdd,reduceCtorEq,h1,h2,purify,unownT,lend,unown,AV.hf]
theorem inw_px (n lo hi : Int) (H : Heap) : pcx (cbL tab) 244 [.int .u64 n,.int .u64 lo,.int .u64 hi] H = some (.plain (.bool (decide (lo <= n /\ n <= hi)))) := by
 refine pcx_N rfl (pc_wp (fi := c244) rfl rfl (by simp [c244]) (by decide) ?_)
 unfold c244
 rw [List.map_cons,List.map_cons,List.map_cons,List.map_nil,lend_int,lend_int,lend_int]
 by_cases h1 : lo <= n <;> by_cases h2 : n <= hi <;> simp (disch := omega) only [wk,tupled,↓reduceIte,reduceEqDiff,reduceEq,reduceAdd,reduceCtorEq,h1,h2,purify,unownT,lend,unown,AV.hf]
theorem th08 (H : Heap) : pcx (cbL tab) 227 [.int .i64 (0 : Nat),.int .i64 (8 : Nat)] H = some (.plain (.bool true)) := pcx_evb rfl (by kernel_rfl) H
theorem th824 (H : Heap) : pcx (cbL tab) 227 [.int .i64 (8 : Nat),.int .i64 (24 : Nat)] H = some (.plain (.bool true)) := pcx_evb rfl (by kernel_rfl) H
theorem th016 (H : Heap) : pcx (cbL tab) 227 [.int .i64 (0 : Nat),.int .i64 (16 : Nat)] H = some (.plain (.bool true)) := pcx_evb rfl (by kernel_rfl) H
theorem th1624 (H : Heap) : pcx (cbL tab) 227 [.int .i64 (16 : Nat),.int .i64 (24 : Nat)] H = some (.plain (.bool true)) := pcx_evb rfl (by kernel_rfl) H
theorem th4016 (H : Heap) : pcx (cbL tab) 227 [.int .i64 (40 : Nat),.int .i64 (16 : Nat)] H = some (.plain (.bool true)) := pcx_evb rfl (by kernel_rfl) H
theorem mk08 (H : Heap) : pcx (cbL tab) 228 [.int .i64 (0 : Nat),.int .i64 (8 : Nat)] H = some (.plain (.int .u64 ((maskN 0 8 : Nat) : Int))) := pcx_ev rfl (by kernel_rfl) H
theorem mk824 (H : Heap) : pcx (cbL tab) 228 [.int .i64 (8 : Nat),.int .i64 (24 : Nat)] H = some (.plain (.int .u64 ((maskN 8 24 : Nat) : Int))) := pcx_ev rfl (by kernel_rfl) H
theorem mk016 (H : Heap) : pcx (cbL tab) 228 [.int .i64 (0 : Nat),.int .i64 (16 : Nat)] H = some (.plain (.int .u64 ((maskN 0 16 : Nat) : Int))) := pcx_ev rfl (by kernel_rfl) H
theorem mk1624 (H : Heap) : pcx (cbL tab) 228 [.int .i64 (16 : Nat),.int .i64 (24 : Nat)] H = some (.plain (.int .u64 ((maskN 16 24 : Nat) : Int))) := pcx_ev rfl (by kernel_rfl) H
theorem mk4016 (H : Heap) : pcx (cbL tab) 228 [.int .i64 (40 : Nat),.int .i64 (16 : Nat)] H = some (.plain (.int .u64 ((maskN 40 16 : Nat) : Int))) := pcx_ev rfl (by kernel_rfl) H
theorem mz24 (H : Heap) : pcx (cbL tab) 228 [.int .i64 0,.int .i64 (24 : Nat)] H = some (.plain (.int .u64 (2 ^ 24 - 1))) := pcx_ev rfl (by kernel_rfl) H
theorem mz16 (H : Heap) : pcx (cbL tab) 228 [.int .i64 0,.int .i64 (16 : Nat)] H = some (.plain (.int .u64 (2 ^ 16 - 1))) := pcx_ev rfl (by kernel_rfl) H
theorem f08 (w : Int) (h0 : 0 <= w) (h1 : w < 18446744073709551616) (H : Heap) : pcx (cbL tab) 187 [.int .u64 w,.int .i64 0,.int .i64 8] H = some (.plain (.tup [.int .u64 (w % 256),.int .i64 0])) := by
 have h := field_gen 0 8 w h0 h1 (by decide) (by decide) th08 mk08 H
 have e : w / 2 ^ 0 % 2 ^ 8 = w % 256 := by show w / 1 % 256 = _; rw [Int.ediv_one]
 rw [e] at h; exact h
theorem f824 (w : Int) (h0 : 0 <= w) (h1 : w < 18446744073709551616) (H : Heap) : pcx (cbL tab) 187 [.int .u64 w,.int .i64 8,.int .i64 24] H = some (.plain (.tup [.int .u64 (w / 256 % 16777216),.int .i64 0])) :=
 field_gen 8 24 w h0 h1 (by decide) (by decide) th824 mk824 H
theorem f016 (w : Int) (h0 : 0 <= w) (h1 : w < 18446744073709551616) (H : Heap) : pcx (cbL tab) 187 [.int .u64 w,.int .i64 0,.int .i64 16] H = some (.plain (.tup [.int .u64 (w % 65536),.int .i64 0])) := by
 have h := field_gen 0 16 w h0 h1 (by decide) (by decide) th016 mk016 H
 have e : w / 2 ^ 0 % 2 ^ 16 = w % 65536 := by show w / 1 % 65536 = _; rw [Int.ediv_one]
 rw [e] at h; exact h
theorem f1624 (w : Int) (h0 : 0 <= w) (h1 : w < 18446744073709551616) (H : Heap) : pcx (cbL tab) 187 [.int .u64 w,.int .i64 16,.int .i64 24] H = some (.plain (.tup [.int .u64 (w / 65536 % 16777216),.int .i64 0])) :=
 field_gen 16 24 w h0 h1 (by decide) (by decide) th1624 mk1624 H
theorem f4016 (w : Int) (h0 : 0 <= w) (h1 : w < 18446744073709551616) (H : Heap) : pcx (cbL tab) 187 [.int .u64 w,.int .i64 40,.int .i64 16] H = some (.plain (.tup [.int .u64 (w / 1099511627776 % 65536),.int .i64 0])) :=
 field_gen 40 16 w h0 h1 (by decide) (by decide) th4016 mk4016 H
theorem w824 (w v : Int) (h0 : 0 <= w) (h1 : w < 4294967296) (v0 : 0 <= v) (v1 : v < 16777216) (H : Heap) : pcx (cbL tab) 258 [.int .u64 w,.int .i64 8,.int .i64 24,.int .u64 v] H = some (.plain (.tup [.int .u64 (w % 256 + 256 * v),.int .i64 0])) := by
 have h := with_gen 8 24 w v h0 h1 (by decide) (by decide) v0 v1 th824 mk824 mz24 H
 have e : w % 2 ^ 8 + v * 2 ^ 8 = w % 256 + 256 * v := by show w % 256 + v * 256 = _; omega
 rw [e] at h; exact h
theorem w016 (v : Int) (v0 : 0 <= v) (v1 : v < 65536) (H : Heap) : pcx (cbL tab) 258 [.int .u64 0,.int .i64 0,.int .i64 16,.int .u64 v] H = some (.plain (.tup [.int .u64 v,.int .i64 0])) := by
 have h := with_gen 0 16 0 v (by decide) (by decide) (by decide) (by decide) v0 v1 th016 mk016 mz16 H
 have e : (0 : Int) % 2 ^ 0 + v * 2 ^ 0 = v := by show (0 : Int) % 1 + v * 1 = _; omega
 rw [e] at h; exact h
theorem w1624 (w v : Int) (h0 : 0 <= w) (h1 : w < 65536) (v0 : 0 <= v) (v1 : v < 16777216) (H : Heap) : pcx (cbL tab) 258 [.int .u64 w,.int .i64 16,.int .i64 24,.int .u64 v] H = some (.plain (.tup [.int .u64 (w + 65536 * v),.int .i64 0])) := by
 have h := with_gen 16 24 w v h0 (by show w < 1099511627776; omega) (by decide) (by decide) v0 v1 th1624 mk1624 mz24 H
 have e : w % 2 ^ 16 + v * 2 ^ 16 = w + 65536 * v := by show w % 65536 + v * 65536 = _; omega
 rw [e] at h; exact h
theorem w4016 (w v : Int) (h0 : 0 <= w) (h1 : w < 1099511627776) (v0 : 0 <= v) (v1 : v < 65536) (H : Heap) : pcx (cbL tab) 258 [.int .u64 w,.int .i64 40,.int .i64 16,.int .u64 v] H = some (.plain (.tup [.int .u64 (w + 1099511627776 * v),.int .i64 0])) := by
 have h := with_gen 40 16 w v h0 (by show w < 72057594037927936; omega) (by decide) (by decide) v0 v1 th4016 mk4016 mz16 H
 have e : w % 2 ^ 40 + v * 2 ^ 40 = w + 1099511627776 * v := by show w % 1099511627776 + v * 1099511627776 = _; omega
 rw [e] at h; exact h
def linkedM (w k : Int) : Int × Int := if w < 4294967296 /\ (1 <= w % 256 /\ w % 256 <= 3) /\ (0 <= k /\ k <= 65535) then (w % 256 + 256 * k,0) else (0,240)
def linkedR (x : Int × Int) : AV := .tup [.int .u64 x.1,.int .i64 x.2]
theorem bv_streq {xo yo : X} {ek : EqK} {a b : ByteArray} : binV .eql ek xo yo (.str a) (.str b) = some (.bool (a.toList == b.toList)) := rfl
theorem ba_eq (s t : ByteArray) : (s.toList == t.toList) = decide (s = t) := by
 by_cases h : s = t
 . subst h
   rw [decide_eq_true rfl,beq_self_eq_true]
 . rw [decide_eq_false h]
   have : ¬ (s.toList == t.toList) = true := fun e => h (by
     rw [ByteArray.toList_eq,ByteArray.toList_eq] at e
     have := eq_of_beq e
     obtain ⟨⟨a⟩⟩ := s
     obtain ⟨⟨b⟩⟩ := t
     exact congrArg (fun l => ByteArray.mk (Array.mk l)) this)
   simpa using this
theorem ceq_e {x y : Ext} : cellsEq [0,0,0] [.int .i64 x.1,.int .i64 x.2.1,.int .i64 x.2.2] [.int .i64 y.1,.int .i64 y.2.1,.int .i64 y.2.2] = some (decide (x = y)) := by
 obtain ⟨a,b,c⟩ := x
 obtain ⟨d,e,f⟩ := y
 by_cases h1 : a = d
 . by_cases h2 : b = e
   . by_cases h3 : c = f
     . subst h1 h2 h3; simp [cellsEq,cellEq]
     . have : (c == f) = false := by simp [h3]
       subst h1 h2; simp [cellsEq,cellEq,this,h3]
   . have : (b == e) = false := by simp [h2]
     subst h1; simp [cellsEq,cellEq,this,h2]
 . have : (a == d) = false := by simp [h1]
   simp [cellsEq,cellEq,this,h1]
theorem edrop (pre : List Ext) (x : Ext) (r : List Ext) (rest : List AV) : List.drop (pre.length * 3) (encs extA (pre ++ x :: r) ++ rest) = .int .i64 x.1 :: .int .i64 x.2.1 :: .int .i64 x.2.2 :: (encs extA r ++ rest) := by
 rw [drop_pre2,encs_cons]; rfl
theorem lenE (l : List Ext) : (encs extA l).length = l.length * 3 := encs_length (k := 3) l
theorem equall_pc (a b : List Ext) (r1 r2 : List AV) (s1 s2 : Nat) (k1 k2 : Tk) (ha : a.length <= 1000) (hb : b.length <= 1000) (z1 : a ≠ [] -> s1 = 3) (z2 : b ≠ [] -> s2 = 3) (h1 : hfL r1 = true) (h2 : hfL r2 = true) (t1 : k1.hf = true) (t2 : k2.hf = true) :
   (cbL tab).pc 287 [.sl s1 a.length (encs extA a ++ r1) k1,.sl s2 b.length (encs extA b ++ r2) k2] = some (.plain (.bool (decide (a = b)))) := by
 obtain ⟨u1,e1,f1⟩ := lend_sl s1 a.length (encs extA a ++ r1) k1
 obtain ⟨u2,e2,f2⟩ := lend_sl s2 b.length (encs extA b ++ r2) k2
 refine pc_wp (fi := c287) rfl ?_ (by simp [c287]) (by decide) ?_
 . simp only [pcOn,List.map_cons,List.map_nil,hfL,hf_lend_sl,hf_lend_int,hf_lend_bool,hf_lend_str,hfL_append,Bool.and_self,Bool.and_true,Bool.true_and,c287,hf_extA,h1,h2,AV.hf,t1,t2]
 unfold c287
 rw [List.map_cons,List.map_cons,List.map_nil,e1,e2]
 by_cases hl : (a.length : Int) = (b.length : Int)
 case neg =>
   have : ¬ a = b := fun h => hl (by rw [h])
   simp (disch := omega) only [wk,tupled,↓reduceIte,reduceEqDiff,reduceEq,reduceAdd,reduceCtorEq,hl,this,purify,unownT,lend,unown,AV.hf]
 have hl' : a.length = b.length := by omega
 simp (disch := omega) only [wk,tupled,↓reduceIte,reduceEqDiff,reduceEq,reduceAdd,reduceCtorEq,hl]
 refine loop_ind (fun (x : List Ext × List Ext × List Ext) E df H => a = x.1 ++ x.2.1 /\ b = x.1 ++ x.2.2 /\ E 0 = .sl s1 a.length (encs extA a ++ r1) u1 /\ E 1 = .sl s2 b.length (encs extA b ++ r2) u2 /\ E 12 = .int .i64 (b.length : Nat) /\ E 13 = .int .i64 (x.1.length : Nat) /\ df = [] /\ H = [])
   (fun x => x.2.1.length) ([],a,b) (by decide) (.inl rfl) ⟨rfl,rfl,rfl,rfl,rfl,rfl,rfl,rfl⟩ ?_
 intro ⟨pre,sa,sb⟩ E df H ih hP
 obtain ⟨a1,a2,E0,E1,E12,E5,hdf,hH⟩ := hP
 dsimp only at a1 a2 E5
 subst hdf hH
 have la : a.length = pre.length + sa.length := by rw [a1,List.length_append]
 have lb : b.length = pre.length + sb.length := by rw [a2,List.length_append]
 cases sa with
 | nil =>
   cases sb with
   | nil =>
     have : a = b := by rw [a1,a2]
     simp only [List.length_nil,Nat.add_zero] at la lb
     simp (disch := omega) only [wk,tupled,↓reduceIte,reduceEqDiff,reduceEq,reduceAdd,reduceCtorEq,E0,E1,E12,E5,la,lb,this,purify,unownT,lend,unown,AV.hf]
   | cons y r => simp at la lb; omega
 | cons x r =>
   cases sb with
   | nil => simp at la lb; omega
   | cons y q =>
     simp only [List.length_cons] at la lb
     obtain rfl := z1 (by rw [a1]; simp)
     obtain rfl := z2 (by rw [a2]; simp)
     have d1 := edrop pre x r r1
     have d2 := edrop pre y q r2
     rw [<- a1] at d1
     rw [<- a2] at d2
     have n1 : (pre.length : Int) < (a.length : Int) := by omega
     have n2 : (pre.length : Int) < (b.length : Int) := by omega
     by_cases hxy : x = y
     . subst hxy
       simp (disch := omega) only [wk,tupled,↓reduceIte,reduceEqDiff,reduceEq,reduceAdd,reduceCtorEq,E0,E1,E12,E5,n1,n2,d1,d2,bv_sneqd ceq_e]
       refine ih (pre ++ [x],r,q) _ _ _ (by simp) ?_
       exact ⟨by simp [a1],by simp [a2],by simp only [en,↓reduceIte,reduceEqDiff,E0],by simp only [en,↓reduceIte,reduceEqDiff,E1],by simp only [en,↓reduceIte,reduceEqDiff,E12],by simp only [en,↓reduceIte,reduceEqDiff],rfl,rfl⟩
     . have : ¬ a = b := by rw [a1,a2]; simp [hxy]
       simp (disch := omega) only [wk,tupled,↓reduceIte,reduceEqDiff,reduceEq,reduceAdd,reduceCtorEq,E0,E1,E12,E5,n1,n2,d1,d2,bv_sneqd ceq_e,hxy,this,purify,unownT,lend,unown,AV.hf]
def MapR (m : AV) (l : List Ext) : Prop := ∃ s rest tk,m = .sl s l.length (encs extA l ++ rest) tk /\ (l ≠ [] -> s = 3) /\ hfL rest = true /\ tk.hf = true
def inoA (n : Ino) (m : AV) : AV := .agg [.int .i64 n.kind,.int .i64 n.links,.int .i64 n.size,m,.int .i64 n.root,.int .i64 n.parent,.str n.target]
theorem MapR.unown {m : AV} {l : List Ext} (h : MapR m l) : unown m = m := by
 obtain ⟨s,rest,tk,rfl,_,_,ht⟩ := h
 cases tk <;> first | rfl | cases ht
theorem lend_inoA {n : Ino} {m : AV} (h : MapR m n.map) : lend (inoA n m) = inoA n m := by
 show AV.agg [_,_,_,Go.Am.unown m,_,_,_] = _
 rw [h.unown]; rfl
theorem MapR.hf {m : AV} {l : List Ext} (h : MapR m l) : m.hf = true := by
 obtain ⟨s,rest,tk,rfl,_,hr,ht⟩ := h
 simp [AV.hf,hfL_append,hf_extA,hr,ht]
theorem hf_inoA {n : Ino} {m : AV} (h : MapR m n.map) : (inoA n m).hf = true := by
 simp [inoA,AV.hf,hfL,h.hf]
theorem MapR.one {m : AV} {l : List Ext} (h : MapR m l) : m.flat = [m] /\ m.one = true := by
 obtain ⟨s,rest,tk,rfl,_,hr,ht⟩ := h
 exact ⟨rfl,rfl⟩
theorem equall_v {a b : List Ext} {r1 r2 : List AV} {s1 s2 : Nat} {k1 k2 : Tk} {v1 v2 : AV} {H : Heap} (hv1 : lendK H 4 v1 = .sl s1 a.length (encs extA a ++ r1) k1) (hv2 : lendK H 4 v2 = .sl s2 b.length (encs extA b ++ r2) k2)
   (ha : a.length <= 1000) (hb : b.length <= 1000) (z1 : a ≠ [] -> s1 = 3) (z2 : b ≠ [] -> s2 = 3) (h1 : hfL r1 = true) (h2 : hfL r2 = true) (t1 : k1.hf = true) (t2 : k2.hf = true) :
   pcx (cbL tab) 287 [v1,v2] H = some (.plain (.bool (decide (a = b)))) :=
 pcx_L rfl (by simp [hv1,hv2]) (equall_pc a b r1 r2 s1 s2 k1 k2 ha hb z1 z2 h1 h2 t1 t2) rfl
theorem equall_m {a b : List Ext} {m k : AV} (ha : MapR m a) (hb : MapR k b) (h1 : a.length <= 1000) (h2 : b.length <= 1000) (H : Heap) : pcx (cbL tab) 287 [m,k] H = some (.plain (.bool (decide (a = b)))) := by
 obtain ⟨s,rest,tk,rfl,z1,r1,t1⟩ := ha
 obtain ⟨s2,rest2,tk2,rfl,z2,r2,t2⟩ := hb
 exact equall_v (lendK_sl ..) (lendK_sl ..) h1 h2 z1 z2 r1 r2 t1 t2
def sameB (a b : Ino) : Bool := decide (a.kind = b.kind /\ a.links = b.links /\ a.size = b.size /\ a.map = b.map /\ a.root = b.root /\ a.parent = b.parent /\ a.target = b.target)
theorem same_px' (a b : Ino) (m k : AV) (hm : MapR m a.map) (hk : MapR k b.map) (h1 : a.map.length <= 1000) (h2 : b.map.length <= 1000) (H : Heap) : pcx (cbL tab) 280 [inoA a m,inoA b k] H = some (.plain (.bool (sameB a b))) := by
 refine pcx_N rfl (pc_wp (fi := c280) rfl ?_ (by simp [c280]) (by decide) ?_)
 . simp only [pcOn,List.map_cons,List.map_nil,hfL,hf_lend_sl,hf_lend_int,hf_lend_bool,hf_lend_str,hfL_append,Bool.and_self,Bool.and_true,Bool.true_and,c280,lend_inoA hm,hf_inoA hm,lend_inoA hk,hf_inoA hk]
 unfold c280
 rw [List.map_cons,List.map_cons,List.map_nil,lend_inoA hm,lend_inoA hk]
 have q := fun H => equall_m hm hk h1 h2 H
 have m1 := hm.one.1
 have m2 := hm.one.2
 have k1 := hk.one.1
 have k2 := hk.one.2
 clear hm hk h1 h2
 by_cases c1 : a.kind = b.kind
 case neg =>
   have e : sameB a b = false := decide_eq_false (fun h => c1 h.1)
   simp (disch := omega) only [wk,tupled,↓reduceIte,reduceEqDiff,reduceEq,reduceAdd,reduceCtorEq,inoA,m1,m2,k1,k2,c1,e,purify,unownT,lend,unown,AV.hf]
 by_cases c2 : a.links = b.links
 case neg =>
   have e : sameB a b = false := decide_eq_false (fun h => c2 h.2.1)
   simp (disch := omega) only [wk,tupled,↓reduceIte,reduceEqDiff,reduceEq,reduceAdd,reduceCtorEq,inoA,m1,m2,k1,k2,c1,c2,e,purify,unownT,lend,unown,AV.hf]
 by_cases c3 : a.size = b.size
 case neg =>
   have e : sameB a b = false := decide_eq_false (fun h => c3 h.2.2.1)
   simp (disch := omega) only [wk,tupled,↓reduceIte,reduceEqDiff,reduceEq,reduceAdd,reduceCtorEq,inoA,m1,m2,k1,k2,c1,c2,c3,e,purify,unownT,lend,unown,AV.hf]
 by_cases c4 : a.map = b.map
 case neg =>
   have e : sameB a b = false := decide_eq_false (fun h => c4 h.2.2.2.1)
   simp (disch := omega) only [wk,tupled,↓reduceIte,reduceEqDiff,reduceEq,reduceAdd,reduceCtorEq,inoA,m1,m2,k1,k2,c1,c2,c3,q,c4,e,purify,unownT,lend,unown,AV.hf]
 by_cases c5 : a.root = b.root
 case neg =>
   have e : sameB a b = false := decide_eq_false (fun h => c5 h.2.2.2.2.1)
   simp (disch := omega) only [wk,tupled,↓reduceIte,reduceEqDiff,reduceEq,reduceAdd,reduceCtorEq,inoA,m1,m2,k1,k2,c1,c2,c3,q,c4,c5,e,purify,unownT,lend,unown,AV.hf]
 by_cases c6 : a.parent = b.parent
 case neg =>
   have e : sameB a b = false := decide_eq_false (fun h => c6 h.2.2.2.2.2.1)
   simp (disch := omega) only [wk,tupled,↓reduceIte,reduceEqDiff,reduceEq,reduceAdd,reduceCtorEq,inoA,m1,m2,k1,k2,c1,c2,c3,q,c4,c5,c6,e,purify,unownT,lend,unown,AV.hf]
 have e : sameB a b = (a.target.toList == b.target.toList) := by
   rw [ba_eq]
   simp [sameB,c1,c2,c3,c4,c5,c6]
 simp (disch := omega) only [wk,tupled,↓reduceIte,reduceEqDiff,reduceEq,reduceAdd,reduceCtorEq,inoA,m1,m2,k1,k2,c1,c2,c3,q,c4,c5,c6,bv_streq,e,purify,unownT,lend,unown,AV.hf]
def rightA (x : Ext) : Prop := 0 <= x.1 /\ x.1 < 128 /\ 1 <= x.2.2 /\ x.2.2 <= 128 - x.1
def rightB (x : Ext) : Prop := 1 <= x.2.1 /\ x.2.1 < 2048 /\ x.2.2 <= 2048 - x.2.1
instance (x : Ext) : Decidable (rightA x) := inferInstanceAs (Decidable (_ /\ _ /\ _ /\ _))
instance (x : Ext) : Decidable (rightB x) := inferInstanceAs (Decidable (_ /\ _ /\ _))
theorem right_split (x : Ext) : rightM x ↔ rightA x /\ rightB x := by unfold rightM rightA rightB; constructor <;> (intro h; omega)
def cellsX (x : Ext) : List AV := [.int .i64 x.1,.int .i64 x.2.1,.int .i64 x.2.2]
theorem xright1_ic (id : Nat) (x : Ext) (H : Heap) (h : H[id]? = some (.cells (cellsX x))) :
   pcx (cbL tab) 293 [.ptr id 0] H = none /\ (cbL tab).ic 293 [.ptr id 0] H = some (.ret (.bool (decide (rightA x))),H) := by
 refine ⟨pcx_none rfl (pc_none (fi := c293) rfl rfl), ?_⟩
 have : ∃ o H',(cbL tab).ic 293 [.ptr id 0] H = some (o,H') /\ o = .ret (.bool (decide (rightA x))) /\ H' = H := by
   refine ic_wp (fi := c293) rfl rfl (by simp [c293]) (by decide) ?_
   unfold c293
   unfold cellsX at h
   have e : rightA x ↔ 0 <= x.1 /\ x.1 < 128 /\ 1 <= x.2.2 /\ x.2.2 <= 128 - x.1 := Iff.rfl
   by_cases c1 : 0 <= x.1
   case neg =>
     have : ¬ rightA x := by rw [e]; omega
     simp (disch := omega) only [wk,tupled,↓reduceIte,reduceEqDiff,reduceEq,reduceAdd,reduceCtorEq,h,c1,this]
   by_cases c2 : x.1 < 128
   case neg =>
     have : ¬ rightA x := by rw [e]; omega
     simp (disch := omega) only [wk,tupled,↓reduceIte,reduceEqDiff,reduceEq,reduceAdd,reduceCtorEq,h,c1,c2,this]
   by_cases c3 : 1 <= x.2.2
   case neg =>
     have : ¬ rightA x := by rw [e]; omega
     simp (disch := omega) only [wk,tupled,↓reduceIte,reduceEqDiff,reduceEq,reduceAdd,reduceCtorEq,h,c1,c2,c3,this]
   by_cases c4 : x.2.2 <= 128 - x.1
   case neg =>
     have : ¬ rightA x := by rw [e]; omega
     simp (disch := omega) only [wk,tupled,↓reduceIte,reduceEqDiff,reduceEq,reduceAdd,reduceCtorEq,h,c1,c2,c3,c4,this]
   have : rightA x := by rw [e]; omega
   simp (disch := omega) only [wk,tupled,↓reduceIte,reduceEqDiff,reduceEq,reduceAdd,reduceCtorEq,h,c1,c2,c3,c4,this]
 obtain ⟨o,H',h,rfl,rfl⟩ := this
 exact h
theorem xright2_ic (id : Nat) (x : Ext) (H : Heap) (h : H[id]? = some (.cells (cellsX x))) :
   pcx (cbL tab) 294 [.ptr id 0] H = none /\ (cbL tab).ic 294 [.ptr id 0] H = some (.ret (.bool (decide (rightB x))),H) := by
 refine ⟨pcx_none rfl (pc_none (fi := c294) rfl rfl), ?_⟩
 have : ∃ o H',(cbL tab).ic 294 [.ptr id 0] H = some (o,H') /\ o = .ret (.bool (decide (rightB x))) /\ H' = H := by
   refine ic_wp (fi := c294) rfl rfl (by simp [c294]) (by decide) ?_
   unfold c294
   unfold cellsX at h
   have e : rightB x ↔ 1 <= x.2.1 /\ x.2.1 < 2048 /\ x.2.2 <= 2048 - x.2.1 := Iff.rfl
   by_cases c1 : 1 <= x.2.1
   case neg =>
     have : ¬ rightB x := by rw [e]; omega
     simp (disch := omega) only [wk,tupled,↓reduceIte,reduceEqDiff,reduceEq,reduceAdd,reduceCtorEq,h,c1,this]
   by_cases c2 : x.2.1 < 2048
   case neg =>
     have : ¬ rightB x := by rw [e]; omega
     simp (disch := omega) only [wk,tupled,↓reduceIte,reduceEqDiff,reduceEq,reduceAdd,reduceCtorEq,h,c1,c2,this]
   by_cases c3 : x.2.2 <= 2048 - x.2.1
   case neg =>
     have : ¬ rightB x := by rw [e]; omega
     simp (disch := omega) only [wk,tupled,↓reduceIte,reduceEqDiff,reduceEq,reduceAdd,reduceCtorEq,h,c1,c2,c3,this]
   have : rightB x := by rw [e]; omega
   simp (disch := omega) only [wk,tupled,↓reduceIte,reduceEqDiff,reduceEq,reduceAdd,reduceCtorEq,h,c1,c2,c3,this]
 obtain ⟨o,H',h,rfl,rfl⟩ := this
 exact h
theorem lxr1 : (cbL tab).lent 293 = false := rfl
theorem lxr2 : (cbL tab).lent 294 = false := rfl
def extV (x : Ext) : AV := .agg (cellsX x)
theorem lend_extV (x : Ext) : lend (extV x) = extV x := rfl
theorem xright_px (x : Ext) (H : Heap) : pcx (cbL tab) 286 [extV x] H = some (.plain (.bool (decide (rightM x)))) := by
 refine pcx_N rfl (pc_wp (fi := c286) rfl rfl (by simp [c286]) (by decide) ?_)
 unfold c286
 rw [List.map_cons,List.map_nil,lend_extV,extV]
 have i2 : ((2 : Nat) : Int) = 2 := rfl
 have i0 : (0 : Int).toNat = 0 := rfl
 have i1 : (1 : Int).toNat = 1 := rfl
 have ea : (0 : Int) + 1 = 1 := rfl
 have eb : (1 : Int) + 1 = 2 := rfl
 obtain ⟨a1,a2⟩ := xright1_ic 0 x [.cells (cellsX x)] rfl
 obtain ⟨b1,b2⟩ := xright2_ic 0 x [.cells (cellsX x)] rfl
 have e := right_split x
 unfold cellsX at a1 a2 b1 b2 ⊢
 simp (disch := omega) only [wk,tupled,↓reduceIte,reduceEqDiff,reduceEq,reduceAdd,reduceCtorEq,i2]
 rw [ret_loop]
 by_cases h1 : rightA x
 . simp (disch := omega) only [wk,tupled,↓reduceIte,reduceEqDiff,reduceEq,reduceAdd,reduceCtorEq,a1,a2,i0,ea,runE_none lxr1,h1]
   refine ret_again (by decide) (.inl rfl) ?_
   rw [ret_loop]
   by_cases h2 : rightB x
   . have : rightM x := e.2 ⟨h1,h2⟩
     simp (disch := omega) only [wk,tupled,↓reduceIte,reduceEqDiff,reduceEq,reduceAdd,reduceCtorEq,b1,b2,i0,i1,eb,runE_none lxr2,h2]
     refine ret_again (by decide) (.inl rfl) ?_
     rw [ret_loop]
     simp (disch := omega) only [wk,tupled,↓reduceIte,reduceEqDiff,reduceEq,reduceAdd,reduceCtorEq,purify,unownT,lend,unown,AV.hf,this]
   . have : ¬ rightM x := fun h => h2 (e.1 h).2
     simp (disch := omega) only [wk,tupled,↓reduceIte,reduceEqDiff,reduceEq,reduceAdd,reduceCtorEq,b1,b2,i0,i1,eb,runE_none lxr2,h2,purify,unownT,lend,unown,AV.hf,this]
 . have : ¬ rightM x := fun h => h1 (e.1 h).1
   simp (disch := omega) only [wk,tupled,↓reduceIte,reduceEqDiff,reduceEq,reduceAdd,reduceCtorEq,a1,a2,i0,ea,runE_none lxr1,h1,purify,unownT,lend,unown,AV.hf,this]
theorem of1_px (x : Ext) (H : Heap) : pcx (cbL tab) 285 [extV x] H = some (.plain (.bool (!decide (rightM x)))) := by
 refine pcx_N rfl (pc_wp (fi := c285) rfl rfl (by simp [c285]) (by decide) ?_)
 unfold c285
 rw [List.map_cons,List.map_nil,lend_extV]
 have p := fun H => xright_px x H
 simp only [extV,cellsX] at p ⊢
 simp (disch := omega) only [wk,tupled,↓reduceIte,reduceEqDiff,reduceEq,reduceAdd,reduceCtorEq,p,purify,unownT,lend,unown,AV.hf]
def wrongM (l : List Ext) : Bool := l.any fun x => !decide (rightM x)
def idxW : List Ext -> Int -> Int
 | [],_ => -1
 | x :: r,k => if rightM x then idxW r (k + 1) else k
theorem idxW_spec : ∀ (l : List Ext) (k : Int),0 <= k -> (0 <= idxW l k ↔ wrongM l = true)
 | [],k,_ => by simp [idxW,wrongM]
 | x :: r,k,h => by
   have ih := idxW_spec r (k + 1) (by omega)
   unfold wrongM at ih
   by_cases hx : rightM x
   . simp [idxW,wrongM,hx,ih]
   . simp [idxW,wrongM,hx,h]
theorem idxf_px (l : List Ext) (rest : List AV) (s : Nat) (tk : Tk) (H : Heap) (hn : l.length <= 1000) (hz : l ≠ [] -> s = 3) (hr : hfL rest = true) :
   pcx (cbL tab) 292 [.sl s l.length (encs extA l ++ rest) tk,.fn 285 []] H = some (.plain (.int .i64 (idxW l 0))) := by
 obtain ⟨u1,e1,f1⟩ := lend_sl s l.length (encs extA l ++ rest) tk
 refine pcx_N rfl (pc_wp (fi := c292) rfl ?_ (by simp [c292]) (by decide) ?_)
 . simp only [pcOn,List.map_cons,List.map_nil,hfL,hf_lend_sl,hf_lend_int,hf_lend_bool,hf_lend_str,hfL_append,Bool.and_self,Bool.and_true,Bool.true_and,c292,hf_extA,hr,show (lend (.fn 285 [])).hf = true from rfl]
 unfold c292
 have e2 : lend (.fn 285 []) = .fn 285 [] := rfl
 rw [List.map_cons,List.map_cons,List.map_nil,e1,e2]
 simp (disch := omega) only [wk,tupled,↓reduceIte,reduceEqDiff,reduceEq,reduceAdd,reduceCtorEq]
 refine loop_ind (fun (x : List Ext × List Ext) E df H => l = x.1 ++ x.2 /\ idxW l 0 = idxW x.2 (x.1.length : Nat) /\ E 0 = .sl s l.length (encs extA l ++ rest) u1 /\ E 1 = .fn 285 [] /\ E 7 = .int .i64 (l.length : Nat) /\ E 8 = .int .i64 (x.1.length : Nat) /\ df = [] /\ H = [])
   (fun x => x.2.length) ([],l) (by decide) (.inl rfl) ⟨rfl,rfl,rfl,rfl,rfl,rfl,rfl,rfl⟩ ?_
 intro ⟨pre,suf⟩ E df H ih hP
 obtain ⟨a1,a2,E0,E1,E7,E8,hdf,hH⟩ := hP
 dsimp only at a1 a2 E8
 subst hdf hH
 have hl : l.length = pre.length + suf.length := by rw [a1,List.length_append]
 cases suf with
 | nil =>
   simp only [List.length_nil,Nat.add_zero] at hl
   have e : idxW l 0 = -(0 + 1) := a2
   simp (disch := omega) only [wk,tupled,↓reduceIte,reduceEqDiff,reduceEq,reduceAdd,reduceCtorEq,E0,E1,E7,E8,hl,purify,unownT,lend,unown,AV.hf,e]
 | cons x r =>
   simp only [List.length_cons] at hl
   obtain rfl := hz (by rw [a1]; simp)
   have d := edrop pre x r rest
   rw [<- a1] at d
   have n1 : (pre.length : Int) < (l.length : Int) := by omega
   have p := fun H => of1_px x H
   simp only [extV,cellsX] at p
   have st : idxW (x :: r) (pre.length : Nat) = if rightM x then idxW r ((pre.length : Nat) + 1) else (pre.length : Nat) := rfl
   by_cases hx : rightM x
   . simp (disch := omega) only [wk,tupled,↓reduceIte,reduceEqDiff,reduceEq,reduceAdd,reduceCtorEq,E0,E1,E7,E8,n1,d,p,hx]
     refine ih (pre ++ [x],r) _ _ _ (by simp) ?_
     exact ⟨by simp [a1],by rw [a2,st,if_pos hx]; simp,by simp only [en,↓reduceIte,reduceEqDiff,E0],by simp only [en,↓reduceIte,reduceEqDiff,E1],by simp only [en,↓reduceIte,reduceEqDiff,E7],by simp only [en,↓reduceIte,reduceEqDiff],rfl,rfl⟩
   . have e : idxW l 0 = (pre.length : Nat) := by rw [a2,st,if_neg hx]
     simp (disch := omega) only [wk,tupled,↓reduceIte,reduceEqDiff,reduceEq,reduceAdd,reduceCtorEq,E0,E1,E7,E8,n1,d,p,hx,purify,unownT,lend,unown,AV.hf,e]
theorem contf_px (l : List Ext) (rest : List AV) (s : Nat) (tk : Tk) (H : Heap) (hn : l.length <= 1000) (hz : l ≠ [] -> s = 3) (hr : hfL rest = true) :
   pcx (cbL tab) 284 [.sl s l.length (encs extA l ++ rest) tk,.fn 285 []] H = some (.plain (.bool (wrongM l))) := by
 obtain ⟨u1,e1,f1⟩ := lend_sl s l.length (encs extA l ++ rest) tk
 refine pcx_N rfl (pc_wp (fi := c284) rfl ?_ (by simp [c284]) (by decide) ?_)
 . simp only [pcOn,List.map_cons,List.map_nil,hfL,hf_lend_sl,hf_lend_int,hf_lend_bool,hf_lend_str,hfL_append,Bool.and_self,Bool.and_true,Bool.true_and,c284,hf_extA,hr,show (lend (.fn 285 [])).hf = true from rfl]
 unfold c284
 have e2 : lend (.fn 285 []) = .fn 285 [] := rfl
 rw [List.map_cons,List.map_cons,List.map_nil,e1,e2]
 have p := fun H => idxf_px l rest s u1 H hn hz hr
 have q := idxW_spec l 0 (by decide)
 by_cases h : 0 <= idxW l 0
 . have := q.1 h
   simp (disch := omega) only [wk,tupled,↓reduceIte,reduceEqDiff,reduceEq,reduceAdd,reduceCtorEq,p,h,this,purify,unownT,lend,unown,AV.hf]
 . have : wrongM l = false := by
     cases hw : wrongM l with
     | false => rfl
     | true => exact absurd (q.2 hw) h
   simp (disch := omega) only [wk,tupled,↓reduceIte,reduceEqDiff,reduceEq,reduceAdd,reduceCtorEq,p,h,this,purify,unownT,lend,unown,AV.hf]
def SmallE (x : Ext) : Prop := 0 <= x.1 /\ x.1 + x.2.2 <= 128 /\ 0 <= x.2.1 /\ x.2.1 < 2048 /\ 0 <= x.2.2
theorem addE_nil (i d : Int) : addE [] i d = [(i,d,1)] := rfl
theorem addE_snoc (init : List Ext) (x : Ext) (i d : Int) : addE (init ++ [x]) i d = if x.1 + x.2.2 = i /\ x.2.1 + x.2.2 = d then init ++ [(x.1,x.2.1,x.2.2 + 1)] else init ++ [x] ++ [(i,d,1)] := by
 unfold addE
 rw [List.getLast?_concat]
 simp only [List.dropLast_concat]
theorem addE_small {l : List Ext} {i d : Int} (h : ∀ x ∈ l,SmallE x) (i0 : 0 <= i) (i1 : i < 128) (d0 : 0 <= d) (d1 : d < 2048) : ∀ x ∈ addE l i d,SmallE x := by
 have hnew : SmallE (i,d,1) := ⟨i0,by show i + 1 <= 128; omega,d0,d1,by show (0 : Int) <= 1; decide⟩
 rcases List.eq_nil_or_concat l with rfl | ⟨init,y,rfl⟩
 . intro x hx
   rw [addE_nil] at hx
   rw [List.mem_singleton.1 hx]
   exact hnew
 . intro x hx
   rw [List.concat_eq_append] at h hx
   rw [addE_snoc] at hx
   have hy := h y (by simp)
   split at hx
   . rename_i hc
     rcases List.mem_append.1 hx with hx | hx
     . exact h x (by simp [hx])
     . rw [List.mem_singleton.1 hx]
       obtain ⟨h1,h2,h3,h4,h5⟩ := hy
       exact ⟨h1,by show y.1 + (y.2.2 + 1) <= 128; omega,h3,h4,by show 0 <= y.2.2 + 1; omega⟩
   . rcases List.mem_append.1 hx with hx | hx
     . exact h x hx
     . rw [List.mem_singleton.1 hx]
       exact hnew
theorem addE_len (l : List Ext) (i d : Int) : (addE l i d).length <= l.length + 1 := by
 rcases List.eq_nil_or_concat l with rfl | ⟨init,y,rfl⟩
 . exact Nat.le_refl _
 . rw [List.concat_eq_append,addE_snoc]
   split <;> simp
theorem getE0 (init : List Ext) (x : Ext) : (encs extA (init ++ [x]))[init.length * 3]? = some (.int .i64 x.1) := by
 rw [encs_append,List.getElem?_append_right (by rw [lenE]; exact Nat.le_refl _),lenE,Nat.sub_self]; rfl
theorem getE1 (init : List Ext) (x : Ext) : (encs extA (init ++ [x]))[init.length * 3 + 1]? = some (.int .i64 x.2.1) := by
 rw [encs_append,List.getElem?_append_right (by rw [lenE]; omega),lenE,Nat.add_sub_cancel_left]; rfl
theorem getE2 (init : List Ext) (x : Ext) : (encs extA (init ++ [x]))[init.length * 3 + 2]? = some (.int .i64 x.2.2) := by
 rw [encs_append,List.getElem?_append_right (by rw [lenE]; omega),lenE,Nat.add_sub_cancel_left]; rfl
theorem setE2 (init : List Ext) (x : Ext) (m : Int) : List.take (init.length * 3 + 2) (encs extA (init ++ [x])) ++ [AV.int .i64 m] ++ List.drop (init.length * 3 + 2 + 1) (encs extA (init ++ [x])) = encs extA (init ++ [(x.1,x.2.1,m)]) := by
 rw [encs_append,encs_append,List.take_append,List.drop_append,lenE,List.take_of_length_le (by rw [lenE]; omega),List.drop_of_length_le (by rw [lenE]; omega)]
 have h1 : init.length * 3 + 2 - init.length * 3 = 2 := by omega
 have h2 : init.length * 3 + 2 + 1 - init.length * 3 = 3 := by omega
 rw [h1,h2,List.append_assoc,List.append_assoc]
 rfl
theorem goes_ic (id a b : Nat) (init : List Ext) (x : Ext) (i d : Int) (H : Heap) (hid : H[id]? = some (.cells (encs extA (init ++ [x])))) (ha : H[a]? = some (.cells [.int .i64 i])) (hb : H[b]? = some (.cells [.int .i64 d])) (hx : SmallE x) :
   pcx (cbL tab) 296 [.ptr id (init.length * 3),.ptr a 0,.ptr b 0] H = none ∧
   (cbL tab).ic 296 [.ptr id (init.length * 3),.ptr a 0,.ptr b 0] H = some (.ret (.bool (decide (x.1 + x.2.2 = i /\ x.2.1 + x.2.2 = d))),
     if x.1 + x.2.2 = i /\ x.2.1 + x.2.2 = d then H.set id (.cells (encs extA (init ++ [(x.1,x.2.1,x.2.2 + 1)]))) else H) := by
 refine ⟨pcx_none rfl (pc_none (fi := c296) rfl rfl), ?_⟩
 have : ∃ o H',(cbL tab).ic 296 [.ptr id (init.length * 3),.ptr a 0,.ptr b 0] H = some (o,H') /\ o = .ret (.bool (decide (x.1 + x.2.2 = i /\ x.2.1 + x.2.2 = d))) ∧
     H' = if x.1 + x.2.2 = i /\ x.2.1 + x.2.2 = d then H.set id (.cells (encs extA (init ++ [(x.1,x.2.1,x.2.2 + 1)]))) else H := by
   refine ic_wp (fi := c296) rfl rfl (by simp [c296]) (by decide) ?_
   unfold c296
   obtain ⟨x1,x2,x3,x4,x5⟩ := hx
   have g0 := getE0 init x
   have g1 := getE1 init x
   have g2 := getE2 init x
   have gs := setE2 init x
   have gl := lenE (init ++ [x])
   by_cases c1 : x.1 + x.2.2 = i
   case neg =>
     have e : ¬ (x.1 + x.2.2 = i /\ x.2.1 + x.2.2 = d) := fun h => c1 h.1
     simp (disch := omega) only [wk,tupled,↓reduceIte,reduceEqDiff,reduceEq,reduceAdd,reduceCtorEq,hid,ha,hb,g0,g1,g2,c1,e,false_and]
   by_cases c2 : x.2.1 + x.2.2 = d
   case neg =>
     have e : ¬ (x.1 + x.2.2 = i /\ x.2.1 + x.2.2 = d) := fun h => c2 h.2
     simp (disch := omega) only [wk,tupled,↓reduceIte,reduceEqDiff,reduceEq,reduceAdd,reduceCtorEq,hid,ha,hb,g0,g1,g2,c1,c2,e,and_false]
   simp (disch := omega) only [wk,tupled,↓reduceIte,reduceEqDiff,reduceEq,reduceAdd,reduceCtorEq,hid,ha,hb,g0,g1,g2,gs,gl,c1,c2]
 obtain ⟨o,H',h,rfl,rfl⟩ := this
 exact h
def RowE (H : Heap) (v : AV) (l : List Ext) : Prop := (l = [] /\ v = .sl 0 0 [] .z) ∨ (l ≠ [] /\ ∃ id,v = .rsl 3 id l.length /\ H[id]? = some (.cells (encs extA l)))
def From (b0 : Nat) (v : AV) : Prop := ∀ k n,v = .rsl 3 k n -> b0 <= k
theorem lgoes : (cbL tab).lent 296 = false := rfl
theorem joined_ic (v : AV) (l : List Ext) (i d : Int) (a b b0 : Nat) (H : Heap) (hr : RowE H v l) (hb0 : b0 <= H.length) (hv : From b0 v) (ha : H[a]? = some (.cells [.int .i64 i])) (hb : H[b]? = some (.cells [.int .i64 d]))
   (hs : ∀ x ∈ l,SmallE x) (hl : l.length <= 1000) :
   pcx (cbL tab) 295 [v,extV (i,d,1),.fn 296 [.ptr a 0,.ptr b 0]] H = none ∧
   ∃ v' H',(cbL tab).ic 295 [v,extV (i,d,1),.fn 296 [.ptr a 0,.ptr b 0]] H = some (.ret v',H') ∧
     RowE H' v' (addE l i d) /\ From b0 v' /\ b0 <= H'.length /\ ∀ k,k < b0 -> H'[k]? = H[k]? := by
 have post : ∀ o H',((∃ v',o = Out.ret v' /\ RowE H' v' (addE l i d) /\ From b0 v' /\ b0 <= H'.length /\ ∀ k,k < b0 -> H'[k]? = H[k]?)) -> (cbL tab).ic 295 [v,extV (i,d,1),.fn 296 [.ptr a 0,.ptr b 0]] H = some (o,H') →
     ∃ v' H',(cbL tab).ic 295 [v,extV (i,d,1),.fn 296 [.ptr a 0,.ptr b 0]] H = some (.ret v',H') /\ RowE H' v' (addE l i d) /\ From b0 v' /\ b0 <= H'.length /\ ∀ k,k < b0 -> H'[k]? = H[k]? := by
   rintro o H' ⟨v',rfl,h⟩ h2
   exact ⟨v',H',h2,h⟩
 have old : ∀ k,k < b0 -> ∀ r : Heap,(H ++ r)[k]? = H[k]? := fun k hk r => List.getElem?_append_left (by omega)
 rcases hr with ⟨rfl,rfl⟩ | ⟨hne,id,rfl,hid⟩
 . refine ⟨pcx_none rfl (pc_none (fi := c295) rfl rfl), ?_⟩
   have : ∃ o H',(cbL tab).ic 295 [.sl 0 0 [] .z,extV (i,d,1),.fn 296 [.ptr a 0,.ptr b 0]] H = some (o,H') ∧
       (∃ v',o = Out.ret v' /\ RowE H' v' (addE [] i d) /\ From b0 v' /\ b0 <= H'.length /\ ∀ k,k < b0 -> H'[k]? = H[k]?) := by
     refine ic_wp (fi := c295) rfl rfl (by simp [c295]) (by decide) ?_
     unfold c295 extV cellsX
     have ap : ∀ H1 : Heap,appR 3 24 (.sl 0 0 [] .z) (.sl 3 1 [.int .i64 i,.int .i64 d,.int .i64 1] .ro) H1 = some (.val (.rsl 3 H1.length 1),H1 ++ [.cells [.int .i64 i,.int .i64 d,.int .i64 1]]) := by
       intro H1
       simp [appR,Tk.empty,allOne,AV.one]
     have i0 : ((0 : Nat) : Int) = 0 := rfl
     have gz : (H ++ [AObj.cells [.int .i64 i,.int .i64 d,.int .i64 1]])[H.length]? = some (.cells [.int .i64 i,.int .i64 d,.int .i64 1]) := by simp
     simp (disch := omega) only [wk,tupled,↓reduceIte,reduceEqDiff,reduceEq,reduceAdd,reduceCtorEq,ap,i0,gz]
     refine ⟨_,rfl,.inr ⟨by simp [addE_nil],_,rfl, ?_⟩,fun k n e => ?_, ?_,fun k hk => ?_⟩
     . rw [addE_nil]; simp [encs,extA]
     . cases e; omega
     . omega
     . rw [List.append_assoc]; exact old k hk _
   obtain ⟨o,H',h1,h2⟩ := this
   exact post o H' h2 h1
 . refine ⟨pcx_none rfl (pc_none (fi := c295) rfl rfl), ?_⟩
   have hid0 : b0 <= id := hv id _ rfl
   obtain ⟨init,x,rfl⟩ : ∃ init x,l = init ++ [x] := by
     rcases List.eq_nil_or_concat l with h | ⟨init,y,h⟩
     . exact absurd h hne
     . exact ⟨init,y,by rw [h,List.concat_eq_append]⟩
   have len : (init ++ [x]).length = init.length + 1 := by simp
   rw [len] at hl ⊢
   rw [len] at post hv
   have hlt : id < H.length := (List.getElem?_eq_some_iff.1 hid).1
   have : ∃ o H',(cbL tab).ic 295 [.rsl 3 id (init.length + 1),extV (i,d,1),.fn 296 [.ptr a 0,.ptr b 0]] H = some (o,H') ∧
       (∃ v',o = Out.ret v' /\ RowE H' v' (addE (init ++ [x]) i d) /\ From b0 v' /\ b0 <= H'.length /\ ∀ k,k < b0 -> H'[k]? = H[k]?) := by
     refine ic_wp (fi := c295) rfl rfl (by simp [c295]) (by decide) ?_
     unfold c295 extV cellsX
     have up : ∀ (k : Nat) (o : AObj),H[k]? = some o -> (H ++ [AObj.cells [.int .i64 i,.int .i64 d,.int .i64 1]])[k]? = some o := fun k o h => by
       rw [List.getElem?_append_left (List.getElem?_eq_some_iff.1 h).1]; exact h
     obtain ⟨q1,q2⟩ := goes_ic id a b init x i d (H ++ [AObj.cells [.int .i64 i,.int .i64 d,.int .i64 1]]) (up _ _ hid) (up _ _ ha) (up _ _ hb) (hs x (by simp))
     have n0 : (0 : Int) < (init.length : Int) + 1 := by omega
     have n1 : (init.length : Int) + 1 - 1 = (init.length : Int) := by omega
     have n2 : (init.length : Int) < ((init.length + 1 : Nat) : Int) := by omega
     have n3 : (init.length : Int) < (init.length : Int) + 1 := by omega
     by_cases c : x.1 + x.2.2 = i /\ x.2.1 + x.2.2 = d
     . rw [if_pos c] at q2
       have hd : decide (x.1 + x.2.2 = i /\ x.2.1 + x.2.2 = d) = true := decide_eq_true c
       have ha2 : addE (init ++ [x]) i d = init ++ [(x.1,x.2.1,x.2.2 + 1)] := by rw [addE_snoc,if_pos c]
       rw [hd] at q2
       clear c hd
       simp (disch := omega) only [wk,tupled,↓reduceIte,reduceEqDiff,reduceEq,reduceAdd,reduceCtorEq,n0,n1,n2,n3,q1,q2,runE_none lgoes]
       rw [ha2]
       refine ⟨_,rfl,.inr ⟨by simp,id,by simp, ?_⟩,fun k n e => ?_, ?_,fun k hk => ?_⟩
       . exact List.getElem?_set_self (by simp; omega)
       . cases e; exact hid0
       . simp; omega
       . rw [List.getElem?_set_ne (by omega)]; exact old k hk _
     . rw [if_neg c] at q2
       have hd : decide (x.1 + x.2.2 = i /\ x.2.1 + x.2.2 = d) = false := decide_eq_false c
       have ha2 : addE (init ++ [x]) i d = init ++ [x] ++ [(i,d,1)] := by rw [addE_snoc,if_neg c]
       rw [hd] at q2
       clear c hd
       have gz : (H ++ [AObj.cells [.int .i64 i,.int .i64 d,.int .i64 1]])[H.length]? = some (.cells [.int .i64 i,.int .i64 d,.int .i64 1]) := by simp
       have hid1 := up _ _ hid
       have lE : (encs extA (init ++ [x])).length = (init.length + 1) * 3 := by rw [lenE,len]
       have ap : appR 3 24 (.rsl 3 id (init.length + 1)) (.sl 3 1 [.int .i64 i,.int .i64 d,.int .i64 1] .ro) (H ++ [AObj.cells [.int .i64 i,.int .i64 d,.int .i64 1]]) =
           some (.val (.rsl 3 (H.length + 1) (init.length + 1 + 1)),(H ++ [AObj.cells [.int .i64 i,.int .i64 d,.int .i64 1]]).set id .dead ++ [.cells (encs extA (init ++ [x]) ++ [.int .i64 i,.int .i64 d,.int .i64 1])]) := by
         have h1 : (init.length + 1 + 1) * 24 <= 70368744177664 := by omega
         have h2 : init.length + 1 + 1 <= 70368744177664 := by omega
         simp [appR,allOne,AV.one,hid1,lE,one_extA,h1,h2]
       simp (disch := omega) only [wk,tupled,↓reduceIte,reduceEqDiff,reduceEq,reduceAdd,reduceCtorEq,n0,n1,n2,n3,q1,q2,runE_none lgoes,gz,ap]
       rw [ha2]
       refine ⟨_,rfl,.inr ⟨by simp,H.length + 1,by simp, ?_⟩,fun k n e => ?_, ?_,fun k hk => ?_⟩
       . rw [encs_append (l := init ++ [x]),List.getElem?_append_right (by simp)]
         simp [encs,extA]
       . cases e; omega
       . simp; omega
       . rw [List.getElem?_append_left (by simp; omega),List.getElem?_set_ne (by omega)]; exact old k hk _
   obtain ⟨o,H',h1,h2⟩ := this
   exact post o H' h2 h1
theorem fv1 {id id' o o' : Nat} {r : List AV} (h : id' ≠ id) : floatV (.ptr id o :: r) [.ptr id' o'] = floatV r [.ptr id' o'] := by
 have : offP id [.ptr id' o'] = true := by simp [offP,h]
 simp [floatV,this]
theorem fve {cs : List AV} {r ss : List AV} : floatV (.eptr cs :: r) ss = floatV r ss := by cases ss <;> rfl
theorem get_a0 (H : Heap) (A B : AObj) : (H ++ [A,B])[H.length]? = some A := by simp
theorem get_a1 (H : Heap) (A B : AObj) : (H ++ [A,B])[H.length + 1]? = some B := by simp
theorem set_a0 (H : Heap) (A B C : AObj) : (H ++ [A,B]).set H.length C = H ++ [C,B] := by simp
theorem set_a1 (H : Heap) (A B C : AObj) : (H ++ [A,B]).set (H.length + 1) C = H ++ [A,C] := by
 rw [List.set_append_right _ _ (by omega),Nat.add_sub_cancel_left]; rfl
theorem ljoin : (cbL tab).lent 295 = false := rfl
theorem lenT (l : List Int) : (encs i64A l).length = l.length := by rw [encs_length (k := 1),Nat.mul_one]
theorem getT (pre : List Int) (d : Int) (r : List Int) : (encs i64A (pre ++ d :: r))[pre.length]? = some (.int .i64 d) := by
 rw [encs_append,List.getElem?_append_right (by rw [lenT]; exact Nat.le_refl _),lenT,Nat.sub_self]; rfl
theorem list_ic (id : Nat) (t : List Int) (H : Heap) (hid : H[id]? = some (.cells (encs i64A t))) (ht : Tab t) :
   pcx (cbL tab) 288 [.ptr id 0] H = none ∧
   ∃ v' H',(cbL tab).ic 288 [.ptr id 0] H = some (.ret v',H') /\ RowE H' v' (listM t) /\ From H.length v' /\ H.length <= H'.length /\ (∀ k,k < H.length -> H'[k]? = H[k]?) /\ (∀ x ∈ listM t,SmallE x) /\ (listM t).length <= 128 := by
 refine ⟨pcx_none rfl (pc_none (fi := c288) rfl rfl), ?_⟩
 have : ∃ o H',(cbL tab).ic 288 [.ptr id 0] H = some (o,H') /\ (∃ v',o = .ret v' /\ RowE H' v' (listM t) /\ From H.length v' /\ H.length <= H'.length /\ (∀ k,k < H.length -> H'[k]? = H[k]?) /\ (∀ x ∈ listM t,SmallE x) /\ (listM t).length <= 128) := by
   refine ic_wp (fi := c288) rfl rfl (by simp [c288]) (by decide) ?_
   unfold c288
   have hlt : id < H.length := (List.getElem?_eq_some_iff.1 hid).1
   have ht128 := ht.len
   simp (disch := omega) only [wk,tupled,↓reduceIte,reduceEqDiff,reduceEq,reduceAdd,reduceCtorEq]
   refine loop_ind (fun (x : List Int × List Int × List Ext) E df H1 => t = x.1 ++ x.2.1 /\ listM t = listF x.2.1 (x.1.length : Nat) x.2.2 /\ E 5 = .ptr id 0 /\ E 6 = .int .i64 (x.1.length : Nat) /\ RowE H1 (E 2) x.2.2 /\ From H.length (E 2) /\ H.length <= H1.length /\ (∀ k,k < H.length -> H1[k]? = H[k]?) /\ (∀ y ∈ x.2.2,SmallE y) /\ x.2.2.length <= x.1.length /\ df = [])
     (fun x => x.2.1.length) ([],t,[]) (by decide) (.inl rfl) ⟨rfl,rfl,rfl,rfl,.inl ⟨rfl,rfl⟩,(by intro k n e; cases e),Nat.le_refl _,fun _ _ => rfl,by simp,Nat.le_refl _,rfl⟩ ?_
   intro ⟨pre,suf,out⟩ E df H1 ih hP
   obtain ⟨a1,a2,E5,E6,ho,hf,hle,hold,hsm,hol,hdf⟩ := hP
   dsimp only at a1 a2 E6 ho hsm hol
   subst hdf
   have hl : t.length = pre.length + suf.length := by rw [a1,List.length_append]
   cases suf with
   | nil =>
     simp only [List.length_nil,Nat.add_zero] at hl
     have n1 : ¬ (pre.length : Int) < 128 := by omega
     have e : listM t = out := a2
     have hpl : pre.length <= 128 := by omega
     clear hl
     simp (disch := omega) only [wk,tupled,↓reduceIte,reduceEqDiff,reduceEq,reduceAdd,reduceCtorEq,E5,E6,n1]
     rw [e]
     exact ⟨_,rfl,ho,hf,hle,hold,hsm,by omega⟩
   | cons d r =>
     simp only [List.length_cons] at hl
     have n1 : (pre.length : Int) < 128 := by omega
     have hid1 : H1[id]? = some (.cells (encs i64A t)) := by rw [hold id hlt]; exact hid
     have g := getT pre d r
     rw [<- a1] at g
     have hdv := ht.val d (by rw [a1]; simp)
     have ef : listF (d :: r) (pre.length : Nat) out = listF r ((pre.length : Nat) + 1) (if d = 0 then out else addE out (pre.length : Nat) d) := rfl
     by_cases hd : d = 0
     . have n2 : ¬ 0 < d := by omega
       simp (disch := omega) only [wk,tupled,↓reduceIte,reduceEqDiff,reduceEq,reduceAdd,reduceCtorEq,E5,E6,n1,hid1,g,fv1,get_a0,get_a1,set_a0,set_a1,Nat.zero_add,n2]
       refine ih (pre ++ [d],r,out) _ _ _ (by simp) ?_
       have ho2 : RowE (H1 ++ [AObj.cells [AV.int .i64 (pre.length : Nat)],.cells [.int .i64 d]]) (E 2) out := by
         rcases ho with h | ⟨h1,k,h2,h3⟩
         . exact .inl h
         . exact .inr ⟨h1,k,h2,by rw [List.getElem?_append_left (List.getElem?_eq_some_iff.1 h3).1]; exact h3⟩
       refine ⟨by simp [a1],by rw [a2,ef,if_pos hd]; simp,by simp only [en,↓reduceIte,reduceEqDiff,E5],by simp only [en,↓reduceIte,reduceEqDiff],by simp only [en,↓reduceIte,reduceEqDiff]; exact ho2,by simp only [en,↓reduceIte,reduceEqDiff]; exact hf,by rw [List.length_append]; omega,fun k hk => ?_,hsm,by dsimp only; rw [List.length_append]; omega,rfl⟩
       rw [List.getElem?_append_left (by omega)]
       exact hold k hk
     . have n2 : 0 < d := by omega
       have ho2 : RowE (H1 ++ [AObj.cells [AV.int .i64 (pre.length : Nat)],.cells [.int .i64 d]]) (E 2) out := by
         rcases ho with h | ⟨h1,k,h2,h3⟩
         . exact .inl h
         . exact .inr ⟨h1,k,h2,by rw [List.getElem?_append_left (List.getElem?_eq_some_iff.1 h3).1]; exact h3⟩
       obtain ⟨q1,v',H2,q2,q3,q4,q5,q6⟩ := joined_ic (E 2) out (pre.length : Nat) d H1.length (H1.length + 1) H.length _ ho2 (by rw [List.length_append]; omega) hf (get_a0 ..) (get_a1 ..) hsm (by omega)
       simp only [extV,cellsX] at q1 q2
       have hal := addE_len out (pre.length : Nat) d
       have hsm2 := addE_small hsm (i := (pre.length : Nat)) (d := d) (by omega) (by omega) (by omega) (by omega)
       simp (disch := omega) only [wk,tupled,↓reduceIte,reduceEqDiff,reduceEq,reduceAdd,reduceCtorEq,E5,E6,n1,hid1,g,fv1,get_a0,get_a1,set_a0,set_a1,Nat.zero_add,n2,q1,q2,runE_none ljoin]
       refine ih (pre ++ [d],r,addE out (pre.length : Nat) d) _ _ _ (by simp) ?_
       refine ⟨by simp [a1],by rw [a2,ef,if_neg hd]; simp,by simp only [en,↓reduceIte,reduceEqDiff,E5],by simp only [en,↓reduceIte,reduceEqDiff],by simp only [en,↓reduceIte,reduceEqDiff]; exact q3,by simp only [en,↓reduceIte,reduceEqDiff]; exact q4,q5,fun k hk => ?_,hsm2,by dsimp only; rw [List.length_append]; exact Nat.le_trans hal (by simp; omega),rfl⟩
       rw [q6 k hk,List.getElem?_append_left (by omega)]
       exact hold k hk
 obtain ⟨o,H',h1,v',rfl,h2⟩ := this
 exact ⟨v',H',h1,h2⟩
def ents (ds : List Int) : List (AV × AV) := ds.map fun d => (.int .i64 d,.int .i64 1)
theorem findA_no {d : Int} : ∀ {ds : List Int} {k : Nat},d ∉ ds -> findA 0 (.int .i64 d) (ents ds) k = some none
 | [],_,_ => rfl
 | e :: r,k,h => by
   have h1 : (d == e) = false := by simp; exact fun e2 => h (by simp [e2])
   have h2 : d ∉ r := fun h2 => h (List.mem_cons_of_mem _ h2)
   show (match cellEq 0 (.int .i64 d) (.int .i64 e) with | some true => _ | some false => findA 0 (.int .i64 d) (ents r) (k + 1) | none => none) = _
   simp only [cellEq,if_true,h1]
   exact findA_no h2
theorem findA_yes {d : Int} : ∀ {ds : List Int} {k : Nat},d ∈ ds -> ∃ i,findA 0 (.int .i64 d) (ents ds) k = some (some (i,.int .i64 1))
 | [],_,h => by simp at h
 | e :: r,k,h => by
   show ∃ i,(match cellEq 0 (.int .i64 d) (.int .i64 e) with | some true => some (some (k,AV.int .i64 1)) | some false => findA 0 (.int .i64 d) (ents r) (k + 1) | none => none) = _
   by_cases he : d = e
   . have h1 : (d == e) = true := by simp [he]
     simp only [cellEq,if_true,h1]
     exact ⟨_,rfl⟩
   . have h1 : (d == e) = false := by simp [he]
     simp only [cellEq,if_true,h1]
     exact findA_yes ((List.mem_cons.1 h).resolve_left he)
theorem cellEq_ii (d : Int) : cellEq 0 (.int .i64 d) (.int .i64 d) = some true := by simp [cellEq]
theorem ents_snoc (ds : List Int) (d : Int) : ents ds ++ [(AV.int .i64 d,AV.int .i64 1)] = ents (ds ++ [d]) := by simp [ents]
theorem getI (t : List Int) (i : Nat) (h : i < t.length) : (encs i64A t)[i]? = some (.int .i64 (t.getD i 0)) := by
 have e : t = t.take i ++ t.getD i 0 :: t.drop (i + 1) := by
   rw [List.getD_eq_getElem?_getD,List.getElem?_eq_getElem h,Option.getD_some,<- List.drop_eq_getElem_cons h,List.take_append_drop]
 have hl : (t.take i).length = i := by rw [List.length_take]; omega
 have := getT (t.take i) (t.getD i 0) (t.drop (i + 1))
 rw [<- e,hl] at this
 exact this
theorem encs_map1 (t : List Int) : encs i64A t = t.map (AV.int .i64) := by
 induction t with
 | nil => rfl
 | cons x r ih => rw [encs_cons,ih]; rfl
theorem setI (t : List Int) (i : Nat) (v : Int) (h : i < t.length) : List.take i (encs i64A t) ++ [AV.int .i64 v] ++ List.drop (i + 1) (encs i64A t) = encs i64A (t.set i v) := by
 rw [encs_map1,encs_map1,List.map_set,List.append_assoc,List.set_eq_take_append_cons_drop,if_pos (by simpa using h)]
 rfl
theorem z128 : List.replicate 128 (AV.int .i64 0) = encs i64A t0 := by rw [encs_map1,t0,List.map_replicate]
theorem tk128 (t : List Int) (h : Tab t) : List.take 128 (encs i64A t) = encs i64A t := List.take_of_length_le (by rw [lenT,h.len]; exact Nat.le_refl _)
theorem dr128 (t : List Int) (h : Tab t) : List.drop 128 (encs i64A t) = [] := List.drop_of_length_le (by rw [lenT,h.len]; exact Nat.le_refl _)
def ofR (l : List Ext) : List Int × Bool := match ofM l with
 | some t => (t,true)
 | none => (t0,false)
def tabV (t : List Int) : AV := .agg (encs i64A t)
def ofV (x : List Int × Bool) : AV := .tup [tabV x.1,.bool x.2]
theorem wrongM_layL {l : List Ext} (h : wrongM l = true) (t : List Int) : layL l t = none := by
 cases hl : layL l t with
 | none => rfl
 | some t' =>
   exfalso
   obtain ⟨x,hx,hr⟩ := List.any_eq_true.1 h
   have := layL_right hl x hx
   simp [this] at hr
theorem wrongM_right {l : List Ext} (h : wrongM l = false) : ∀ x ∈ l,rightM x := by
 intro x hx
 apply Classical.byContradiction
 intro hn
 have : wrongM l = true := List.any_eq_true.2 ⟨x,hx,by simp [hn]⟩
 rw [h] at this
 cases this
theorem unown_encsI (t : List Int) : (encs i64A t).map unown = encs i64A t := by
 rw [encs_map1,List.map_map]
 congr 1
theorem unownT_tab (t : List Int) (b : Bool) : unownT (.tup [.agg (encs i64A t),.bool b]) = .tup [.agg (encs i64A t),.bool b] := by
 simp only [unownT,List.map_cons,List.map_nil,lend,unown_encsI,unown]
theorem purify_of (t : List Int) (b : Bool) (H : Heap) : purify (some (.ret (.tup [.agg (encs i64A t),.bool b]),H)) = some (.plain (ofV (t,b))) := by
 have h : (AV.tup [.agg (encs i64A t),.bool b]).hf = true := by
   simp [AV.hf,hf_i64A,hfL]
 show (if (unownT (.tup [.agg (encs i64A t),.bool b])).hf then some (PR.plain (unownT (.tup [.agg (encs i64A t),.bool b]))) else none) = _
 rw [unownT_tab,if_pos h]; rfl
theorem llist : (cbL tab).lent 288 = false := rfl
theorem lendE (H : Heap) (k : Nat) (w : List Ext) : (encs extA w).map (lendK H k) = encs extA w := by
 induction w with
 | nil => rfl
 | cons x r ih => rw [encs_cons,List.map_append,ih,extA,List.map_cons,List.map_cons,List.map_cons,List.map_nil,lendK_int,lendK_int,lendK_int]
theorem RowE.lent {H : Heap} {v : AV} {l : List Ext} (h : RowE H v l) : ∃ s,lendK H 4 v = .sl s l.length (encs extA l ++ []) (if l.isEmpty then .z else .ro) /\ (l ≠ [] -> s = 3) := by
 rcases h with ⟨rfl,rfl⟩ | ⟨hne,id,rfl,hid⟩
 . exact ⟨0,rfl,fun h => absurd rfl h⟩
 . refine ⟨3, ?_,fun _ => rfl⟩
   show (match H[id]? with
     | some (AObj.cells cs) => if l.length * 3 <= cs.length then AV.sl 3 l.length ((cs.take (l.length * 3)).map (lendK H 3)) .ro else AV.rsl 3 id l.length
     | _ => AV.rsl 3 id l.length) = _
   rw [hid]
   simp only [lenE,Nat.le_refl,if_true]
   rw [List.take_of_length_le (by rw [lenE]; exact Nat.le_refl _),lendE,List.append_nil]
   have : l.isEmpty = false := by cases l with
     | nil => exact absurd rfl hne
     | cons _ _ => rfl
   rw [this]; rfl
theorem equall_row {H : Heap} {v m : AV} {a b : List Ext} (hr : RowE H v a) (hm : MapR m b) (h1 : a.length <= 1000) (h2 : b.length <= 1000) :
   pcx (cbL tab) 287 [v,m] H = some (.plain (.bool (decide (a = b)))) := by
 obtain ⟨s,e,z⟩ := hr.lent
 obtain ⟨s2,rest2,tk2,rfl,z2,r2,t2⟩ := hm
 exact equall_v e (lendK_sl ..) h1 h2 z z2 rfl r2 (by split <;> rfl) t2
theorem xof_px (l : List Ext) (m : AV) (hm : MapR m l) (hn : l.length <= 1000) (H : Heap) : pcx (cbL tab) 274 [m] H = some (.plain (ofV (ofR l))) := by
 obtain ⟨s,rest,tk,rfl,hz,hr,htk⟩ := hm
 have hm : ∀ u : Tk,u.hf = true -> MapR (.sl s l.length (encs extA l ++ rest) u) l := fun u hu => ⟨s,rest,u,rfl,hz,hr,hu⟩
 obtain ⟨u1,e1,f1⟩ := lend_sl s l.length (encs extA l ++ rest) tk
 refine pcx_N rfl (pc_wp (fi := c274) rfl ?_ (by simp [c274]) (by decide) ?_)
 . simp only [pcOn,List.map_cons,List.map_nil,hfL,hf_lend_sl,hf_lend_int,hf_lend_bool,hf_lend_str,hfL_append,Bool.and_self,Bool.and_true,Bool.true_and,c274,hf_extA,hr]
 unfold c274
 rw [List.map_cons,List.map_nil,e1,z128]
 have pu := fun b H => purify_of t0 b H
 have tT := Tab.t0
 have tl := lenT t0
 have tl2 := tT.len
 have tk1 := tk128 t0 tT
 have td1 := dr128 t0 tT
 have one0 := one_i64A t0
 by_cases h10 : 10 < l.length
 . have h10' : (10 : Int) < l.length := by omega
   have e : ofR l = (t0,false) := by
     unfold ofR ofM; rw [if_neg (by omega)]
   simp (disch := omega) only [wk,tupled,↓reduceIte,reduceEqDiff,reduceEq,reduceAdd,reduceCtorEq,h10']
   rw [ret_scp_goto rfl]
   refine ret_again (by decide) (.inl rfl) ?_
   simp (disch := omega) only [wk,tupled,↓reduceIte,reduceEqDiff,reduceEq,reduceAdd,reduceCtorEq,tl,tl2,tk1,td1,one0,pu,e,List.append_nil]
 have h10' : ¬ (10 : Int) < l.length := by omega
 have cf := fun H => contf_px l rest s u1 H hn hz hr
 by_cases hw : wrongM l = true
 . have e : ofR l = (t0,false) := by
     unfold ofR ofM; rw [if_pos (by omega),wrongM_layL hw]
   simp (disch := omega) only [wk,tupled,↓reduceIte,reduceEqDiff,reduceEq,reduceAdd,reduceCtorEq,h10',cf,hw]
   rw [ret_scp_goto rfl]
   refine ret_again (by decide) (.inl rfl) ?_
   simp (disch := omega) only [wk,tupled,↓reduceIte,reduceEqDiff,reduceEq,reduceAdd,reduceCtorEq,tl,tl2,tk1,td1,one0,pu,e,List.append_nil]
 rw [Bool.not_eq_true] at hw
 have hright := wrongM_right hw
 simp (disch := omega) only [wk,tupled,↓reduceIte,reduceEqDiff,reduceEq,reduceAdd,reduceCtorEq,h10',cf,hw]
 refine loop_ind (fun (x : List Ext × List Ext × List Int × List Int) E df H1 => l = x.1 ++ x.2.1 /\ layL l t0 = layL x.2.1 x.2.2.1 /\ Tab x.2.2.1 /\ (∀ d : Int,0 < d -> (d ∈ x.2.2.2 ↔ d ∈ x.2.2.1)) /\ H1[0]? = some (.cells (encs i64A x.2.2.1)) /\ H1[1]? = some (.map (ents x.2.2.2)) ∧
     E 0 = .sl s l.length (encs extA l ++ rest) u1 /\ E 2 = .ptr 0 0 /\ E 4 = .mp 1 /\ E 16 = .sl s l.length (encs extA l ++ rest) u1 /\ E 17 = .int .i64 (l.length : Nat) /\ E 18 = .int .i64 (x.1.length : Nat) /\ df = [])
   (fun x => x.2.1.length) ([],l,t0,[]) (by decide) (.inl rfl) ⟨rfl,rfl,tT, ?_,rfl,rfl,rfl,rfl,rfl,rfl,rfl,rfl,rfl⟩ ?_
 . intro d hd
   simp only [List.not_mem_nil,false_iff]
   intro h
   have := (List.mem_replicate.1 h).2
   omega
 intro ⟨pre,suf,tt,ds⟩ E df H1 ih hP
 obtain ⟨a1,a2,hT,hds,h0,h1,E0,E2,E4,E16,E17,E18,hdf⟩ := hP
 dsimp only at a1 a2 hT hds h0 h1 E18
 subst hdf
 have hl : l.length = pre.length + suf.length := by rw [a1,List.length_append]
 have ttl := lenT tt
 have ttl2 := hT.len
 have tk2 := tk128 tt hT
 have td2 := dr128 tt hT
 have one2 := one_i64A tt
 have sl0 : 0 < H1.length := (List.getElem?_eq_some_iff.1 h0).1
 cases suf with
 | nil =>
   simp only [List.length_nil,Nat.add_zero] at hl
   have lay : layL l t0 = some tt := a2
   obtain ⟨q1,v',H2,q2,q3,q4,q5,q6,q7,q8⟩ := list_ic 0 tt H1 h0 hT
   have eq := equall_row q3 (hm u1 f1) (by omega) hn
   have h02 : H2[0]? = some (.cells (encs i64A tt)) := by rw [q6 0 sl0]; exact h0
   have s20 : 0 < H2.length := by omega
   clear q6 q7
   by_cases hL : listM tt = l
   . have e : ofR l = (tt,true) := by
       unfold ofR ofM; rw [if_pos (by omega),lay]; simp [hL]
     have pu2 := fun b H => purify_of tt b H
     have sg : (H2.set 0 (.cells (encs i64A tt)))[0]? = some (.cells (encs i64A tt)) := List.getElem?_set_self s20
     rw [decide_eq_true hL,hl] at eq
     simp (disch := omega) only [wk,tupled,↓reduceIte,reduceEqDiff,reduceEq,reduceAdd,reduceCtorEq,E0,E2,E4,E16,E17,E18,hl,q1,q2,runE_none llist,eq,h02,ttl,ttl2,tk2,td2,one2,pu2,e,sg,List.append_nil]
   . have e : ofR l = (t0,false) := by
       unfold ofR ofM; rw [if_pos (by omega),lay]; simp [hL]
     have sg : (H2.set 0 (.cells (encs i64A t0)))[0]? = some (.cells (encs i64A t0)) := List.getElem?_set_self s20
     rw [decide_eq_false hL,hl] at eq
     simp (disch := omega) only [wk,tupled,↓reduceIte,reduceEqDiff,reduceEq,reduceAdd,reduceCtorEq,E0,E2,E4,E16,E17,E18,hl,q1,q2,runE_none llist,eq,h02,ttl,ttl2,tk2,td2,one2,pu,e,sg,tl,tl2,tk1,td1,one0,List.append_nil]
 | cons x r =>
   simp only [List.length_cons] at hl
   obtain rfl := hz (by rw [a1]; simp)
   have dd := edrop pre x r rest
   rw [<- a1] at dd
   have n1 : (pre.length : Int) < (l.length : Int) := by omega
   have hx := hright x (by rw [a1]; simp)
   have nx : ∀ A : AObj,(H1 ++ [A])[H1.length]? = some A := fun A => by simp
   have stx : ∀ A B : AObj,(H1 ++ [A]).set H1.length B = H1 ++ [B] := fun A B => by simp
   simp (disch := omega) only [wk,tupled,↓reduceIte,reduceEqDiff,reduceEq,reduceAdd,reduceCtorEq,E0,E2,E4,E16,E17,E18,n1,dd,nx,stx]
   have hlt1 : 1 < H1.length := (List.getElem?_eq_some_iff.1 h1).1
   obtain ⟨n,hn'⟩ : ∃ n : Nat,x.2.2 = (n : Int) := ⟨x.2.2.toNat,by have := hx.2.2.1; omega⟩
   have hnt : x.2.2.toNat = n := by omega
   have h0a : (H1 ++ [AObj.cells [AV.int .i64 x.1,.int .i64 x.2.1,.int .i64 x.2.2]])[0]? = some (.cells (encs i64A tt)) := by rw [List.getElem?_append_left (by omega)]; exact h0
   have h1a : (H1 ++ [AObj.cells [AV.int .i64 x.1,.int .i64 x.2.1,.int .i64 x.2.2]])[1]? = some (.map (ents ds)) := by rw [List.getElem?_append_left (by omega)]; exact h1
   have lst : layL (x :: r) tt = match layN n x.1 x.2.1 tt with
     | some t' => layL r t'
     | none => none := by
     show (if rightM x then (match layN x.2.2.toNat x.1 x.2.1 tt with | some t' => layL r t' | none => none) else none) = _
     rw [if_pos hx,hnt]
   generalize hidx : H1.length = idx at hlt1
   clear nx stx
   refine loop_ind (fun (y : Nat × List Int × List Int) E df H2 => y.1 <= n /\ layN n x.1 x.2.1 tt = layN (n - y.1) (x.1 + (y.1 : Nat)) (x.2.1 + (y.1 : Nat)) y.2.1 /\ Tab y.2.1 /\ (∀ d : Int,0 < d -> (d ∈ y.2.2 ↔ d ∈ y.2.1)) /\ H2[0]? = some (.cells (encs i64A y.2.1)) /\ H2[1]? = some (.map (ents y.2.2)) ∧
       H2[idx]? = some (.cells [AV.int .i64 x.1,.int .i64 x.2.1,.int .i64 x.2.2]) /\ E 0 = .sl 3 l.length (encs extA l ++ rest) u1 /\ E 2 = .ptr 0 0 /\ E 4 = .mp 1 /\ E 6 = .ptr idx 0 /\ E 16 = .sl 3 l.length (encs extA l ++ rest) u1 /\ E 17 = .int .i64 (l.length : Nat) /\ E 18 = .int .i64 (pre.length : Nat) ∧
       E 23 = .int .i64 (n : Nat) /\ E 24 = .int .i64 (y.1 : Nat) /\ df = [])
     (fun y => n - y.1) (0,tt,ds) (by decide) (.inl rfl) ⟨Nat.zero_le _,by simp,hT,hds,h0a,h1a,by rw [<- hidx]; simp,by simp only [en,↓reduceIte,reduceEqDiff,E0],by simp only [en,↓reduceIte,reduceEqDiff,E2],by simp only [en,↓reduceIte,reduceEqDiff,E4],by simp only [en,↓reduceIte,reduceEqDiff,hidx],by simp only [en,↓reduceIte,reduceEqDiff,E16],by simp only [en,↓reduceIte,reduceEqDiff,E17],by simp only [en,↓reduceIte,reduceEqDiff,E18],by simp only [en,↓reduceIte,reduceEqDiff,hn'],by simp only [en,↓reduceIte,reduceEqDiff]; rfl,rfl⟩ ?_
   clear h0 h1 h0a h1a E0 E2 E4 E16 E17 E18 hT hds ttl ttl2 tk2 td2 one2 dd
   intro ⟨k,t',ds'⟩ E df H2 ih2 hP
   obtain ⟨hk,hlay,hT,hds,h0,h1,hX,E0,E2,E4,E6,E16,E17,E18,E23,E24,hdf⟩ := hP
   dsimp only at hk hlay hT hds h0 h1 E24
   subst hdf
   have s20 : 0 < H2.length := (List.getElem?_eq_some_iff.1 h0).1
   have s21 : 1 < H2.length := (List.getElem?_eq_some_iff.1 h1).1
   have lt' := lenT t'
   have lt2 := hT.len
   obtain ⟨x1,x2,x3,x4,x5,x6,x7⟩ := hx
   by_cases hkn : k = n
   . subst hkn
     have nk : ¬ (k : Int) < (k : Int) := by omega
     simp (disch := omega) only [wk,tupled,↓reduceIte,reduceEqDiff,reduceEq,reduceAdd,reduceCtorEq,E0,E2,E4,E6,E16,E17,E18,E23,E24,nk]
     refine ih (pre ++ [x],r,t',ds') _ _ _ (by simp) ?_
     have e : layL (x :: r) tt = layL r t' := by
       rw [lst,hlay,Nat.sub_self]; rfl
     exact ⟨by simp [a1],by rw [a2,e],hT,hds,h0,h1,by simp only [en,↓reduceIte,reduceEqDiff,E0],by simp only [en,↓reduceIte,reduceEqDiff,E2],by simp only [en,↓reduceIte,reduceEqDiff,E4],by simp only [en,↓reduceIte,reduceEqDiff,E16],by simp only [en,↓reduceIte,reduceEqDiff,E17],by simp only [en,↓reduceIte,reduceEqDiff],rfl⟩
   have nk : (k : Int) < (n : Int) := by omega
   obtain ⟨j,hj⟩ : ∃ j : Nat,x.1 + (k : Int) = (j : Int) := ⟨(x.1 + (k : Int)).toNat,by omega⟩
   have hj128 : (j : Int) < 128 := by omega
   have hd0 : 0 < x.2.1 + (k : Int) := by omega
   have hd1 : x.2.1 + (k : Int) < 2048 := by omega
   have gj := getI t' j (by omega)
   have sj := setI t' j (x.2.1 + (k : Int)) (by omega)
   obtain ⟨m,hm1⟩ : ∃ m,n - k = m + 1 := ⟨n - k - 1,by omega⟩
   have hm2 : n - (k + 1) = m := by omega
   rw [hm1,hj] at hlay
   have lu : layN (m + 1) (j : Int) (x.2.1 + (k : Int)) t' = if t'.getD j 0 ≠ 0 ∨ x.2.1 + (k : Int) ∈ t' then none else layN m ((j : Int) + 1) (x.2.1 + (k : Int) + 1) (t'.set j (x.2.1 + (k : Int))) := by
     rw [layN,Int.toNat_natCast]
   rw [lu] at hlay
   have wrong : layN n x.1 x.2.1 tt = none -> ofR l = (t0,false) := by
     intro h
     rw [h] at lst
     unfold ofR ofM
     rw [if_pos (by omega),a2,lst]
   have mu : j * 1 = j := Nat.mul_one j
   have sg : (H2.set 0 (.cells (encs i64A t0)))[0]? = some (.cells (encs i64A t0)) := List.getElem?_set_self s20
   by_cases hg : t'.getD j 0 = 0
   case neg =>
     have e := wrong (by rw [hlay,if_pos (.inl hg)])
     simp (disch := omega) only [wk,tupled,↓reduceIte,reduceEqDiff,reduceEq,reduceAdd,reduceCtorEq,E0,E2,E4,E6,E16,E17,E18,E23,E24,nk,hX,hj,hj128,h0,gj,hg,Nat.zero_add,mu]
     rw [ret_scp_goto rfl]
     refine ret_again (by decide) (.inl rfl) ?_
     simp (disch := omega) only [wk,tupled,↓reduceIte,reduceEqDiff,reduceEq,reduceAdd,reduceCtorEq,tl,tl2,tk1,td1,one0,pu,e,List.append_nil,h0,lt',lt2,dr128 t' hT,E2,sg]
   by_cases hin : x.2.1 + (k : Int) ∈ t'
   . have e := wrong (by rw [hlay,if_pos (.inr hin)])
     obtain ⟨q,hq⟩ := findA_yes (k := 0) ((hds _ hd0).2 hin)
     simp (disch := omega) only [wk,tupled,↓reduceIte,reduceEqDiff,reduceEq,reduceAdd,reduceCtorEq,E0,E2,E4,E6,E16,E17,E18,E23,E24,nk,hX,hj,hj128,h0,h1,gj,hg,Nat.zero_add,mu,cellEq_ii,hq]
     rw [ret_scp_goto rfl]
     refine ret_again (by decide) (.inl rfl) ?_
     simp (disch := omega) only [wk,tupled,↓reduceIte,reduceEqDiff,reduceEq,reduceAdd,reduceCtorEq,tl,tl2,tk1,td1,one0,pu,e,List.append_nil,h0,lt',lt2,dr128 t' hT,E2,sg]
   . have hq := findA_no (k := 0) (fun h => hin ((hds _ hd0).1 h))
     have hlay2 := hlay
     rw [if_neg (by rintro (h | h); exact h hg; exact hin h)] at hlay2
     have h1s : ∀ c,(H2.set 0 (.cells c))[1]? = some (.map (ents ds')) := fun c => by rw [List.getElem?_set_ne (by decide)]; exact h1
     simp (disch := omega) only [wk,tupled,↓reduceIte,reduceEqDiff,reduceEq,reduceAdd,reduceCtorEq,E0,E2,E4,E6,E16,E17,E18,E23,E24,nk,hX,hj,hj128,h0,h1,gj,hg,Nat.zero_add,mu,cellEq_ii,hq,fv1,sj,lt',lt2,h1s,ents_snoc]
     refine ih2 (k + 1,t'.set j (x.2.1 + (k : Int)),ds' ++ [x.2.1 + (k : Int)]) _ _ _ (by show n - (k + 1) < n - k; omega) ?_
     refine ⟨by show k + 1 <= n; omega, ?_,hT.set (by omega) hd1,fun d hd => ?_, ?_, ?_, ?_,by simp only [en,↓reduceIte,reduceEqDiff,E0],by simp only [en,↓reduceIte,reduceEqDiff,E2],by simp only [en,↓reduceIte,reduceEqDiff,E4],by simp only [en,↓reduceIte,reduceEqDiff,E6],by simp only [en,↓reduceIte,reduceEqDiff,E16],by simp only [en,↓reduceIte,reduceEqDiff,E17],by simp only [en,↓reduceIte,reduceEqDiff,E18],by simp only [en,↓reduceIte,reduceEqDiff,E23],by simp only [en,↓reduceIte,reduceEqDiff],rfl⟩
     . have c1 : x.1 + ((k + 1 : Nat) : Int) = (j : Int) + 1 := by omega
       have c2 : x.2.1 + ((k + 1 : Nat) : Int) = x.2.1 + (k : Int) + 1 := by omega
       dsimp only
       rw [c1,c2,hm2]
       exact hlay2
     . show d ∈ ds' ++ [x.2.1 + (k : Int)] ↔ d ∈ t'.set j (x.2.1 + (k : Int))
       have hg2 : t'[j]? = some 0 := by
         rw [List.getD_eq_getElem?_getD] at hg
         have hjl : j < t'.length := by omega
         rw [List.getElem?_eq_getElem hjl] at hg ⊢
         simpa using hg
       rw [List.mem_append,List.mem_singleton,hds d hd]
       constructor
       . rintro (h | h)
         . obtain ⟨q,hq⟩ := List.mem_iff_getElem?.1 h
           have hqj : j ≠ q := by
             rintro rfl
             rw [hg2] at hq
             cases hq
             omega
           exact List.mem_iff_getElem?.2 ⟨q,by rw [List.getElem?_set_ne hqj]; exact hq⟩
         . rw [h]
           exact List.mem_iff_getElem?.2 ⟨j,List.getElem?_set_self (by omega)⟩
       . intro h
         rcases List.mem_or_eq_of_mem_set h with h | h
         . exact .inl h
         . exact .inr h
     . rw [List.getElem?_set_ne (by decide),List.getElem?_set_self s20]
     . exact List.getElem?_set_self (by rw [List.length_set]; exact s21)
     . rw [List.getElem?_set_ne (by omega),List.getElem?_set_ne (by omega)]
       exact hX
theorem flat_tab (t : List Int) : (AV.agg (encs i64A t)).flat = encs i64A t := rfl
theorem RowE.pure {H : Heap} {v : AV} {l : List Ext} (h : RowE H v l) : purify (some (.ret v,H)) = some (prRow 3 extA l) := by
 rcases h with ⟨rfl,rfl⟩ | ⟨hne,id,rfl,hid⟩
 . rfl
 . have h1 : l.isEmpty = false := by cases l with
     | nil => exact absurd rfl hne
     | cons _ _ => rfl
   have h2 : l.length ≠ 0 := fun h => hne (List.length_eq_zero_iff.1 h)
   simp only [purify,hid,prRow,h1,lenE,hf_extA,Bool.false_eq_true,if_false]
   rw [if_pos ⟨trivial,h2,trivial⟩]
theorem pc_wpE {tab : FuncId -> Option AFun} {f : FuncId} {fi : AFun} {args : List AV} {R : PR -> Prop} (ht : tab f = some fi) (hon : pcOn fi args = true) (hl : args.length <= fi.np) (hf : fi.body.fits fi.np = true)
   (h : Ret (cbL tab) none fi.np (Go.Am.Ends tab fi.res fun o H => ∃ r,purify (some (o,H)) = some r /\ R r) [.code fi.body] .normal (argE (args.map lend)) [] []) (hcon : fi.con = none := by rfl) (hm : fi.mode ≠ 5 := by decide) : ∃ r,(cbL tab).pc f args = some r /\ R r := by
 rw [<- EV_fr0 fi.np] at h
 obtain ⟨o,H',h1,r,h2,h3⟩ := body_wp (by rw [List.length_map]; exact hl) hf h
 refine ⟨r, ?_,h3⟩
 apply pc_of
 rw [pcA,ht]
 simp only [hcon]
 simp only [hon,if_true]
 rw [h1,if_neg hm,h2]
def OfP (l : List Ext) (r : PR) : Prop := ∃ t b,r = .plain (ofV (t,b)) /\ Tab t /\ b = (ofM l).isSome /\ (∀ t',ofM l = some t' -> t = t')
theorem OfP.no {l : List Ext} {t : List Int} {H : Heap} (h : ofM l = none) (hT : Tab t) : ∃ r,purify (some (.ret (.tup [.agg (encs i64A t),.bool false]),H)) = some r /\ OfP l r :=
 ⟨_,purify_of t false H,t,false,rfl,hT,by rw [h]; rfl,fun t' e => by rw [h] at e; cases e⟩
def errE (l : List Ext) : Int := if (ofM l).isSome then 0 else 2
theorem ofR_tab (l : List Ext) : ∃ t,Tab t /\ ofR l = (t,(ofM l).isSome) := by
 unfold ofR
 cases h : ofM l with
 | none => exact ⟨t0,Tab.t0,rfl⟩
 | some t => exact ⟨t,layL_tab Tab.t0 (ofM_spec h).2.1,rfl⟩
theorem xcheck_px (l : List Ext) (m : AV) (hm : MapR m l) (hn : l.length <= 1000) (H : Heap) : pcx (cbL tab) 237 [m] H = some (.plain (.int .i64 (errE l))) := by
 obtain ⟨s,rest,tk,rfl,hz,hr,htk⟩ := hm
 obtain ⟨u1,e1,f1⟩ := lend_sl s l.length (encs extA l ++ rest) tk
 refine pcx_N rfl (pc_wp (fi := c237) rfl ?_ (by simp [c237]) (by decide) ?_)
 . simp only [pcOn,List.map_cons,List.map_nil,hfL,hf_lend_sl,hf_lend_int,hf_lend_bool,hf_lend_str,hfL_append,Bool.and_self,Bool.and_true,Bool.true_and,c237,hf_extA,hr]
 unfold c237
 rw [List.map_cons,List.map_nil,e1,z128]
 obtain ⟨t,hT,hR⟩ := ofR_tab l
 have p := fun H => xof_px l _ ⟨s,rest,u1,rfl,hz,hr,f1⟩ hn H
 simp only [hR,ofV,tabV] at p
 have tl := lenT t
 have tl2 := hT.len
 have td := dr128 t hT
 have tz := lenT t0
 have tz2 := Tab.t0.len
 have tdz := dr128 t0 Tab.t0
 have one := one_i64A t
 have e : errE l = if (ofM l).isSome then 0 else 2 := rfl
 cases h : (ofM l).isSome <;> rw [h] at p e <;> simp (disch := omega) only [wk,tupled,↓reduceIte,reduceEqDiff,reduceEq,reduceAdd,reduceCtorEq,p,tl,tl2,td,tz,tz2,tdz,one,flat_tab,e,purify,unownT,lend,unown,AV.hf]
theorem lenU (l : List Int) : (encs u64A l).length = l.length := by rw [encs_length (k := 1),Nat.mul_one]
theorem encs_mapU (t : List Int) : encs u64A t = t.map (AV.int .u64) := by
 induction t with
 | nil => rfl
 | cons x r ih => rw [encs_cons,ih]; rfl
theorem setU (t : List Int) (i : Nat) (v : Int) (h : i < t.length) : List.take i (encs u64A t) ++ [AV.int .u64 v] ++ List.drop (i + 1) (encs u64A t) = encs u64A (t.set i v) := by
 rw [encs_mapU,encs_mapU,List.map_set,List.append_assoc,List.set_eq_take_append_cons_drop,if_pos (by simpa using h)]
 rfl
theorem getU (t : List Int) (i : Nat) (h : i < t.length) : (encs u64A t)[i]? = some (.int .u64 (t.getD i 0)) := by
 rw [encs_mapU,List.getElem?_map,List.getD_eq_getElem?_getD,List.getElem?_eq_getElem h]; rfl
theorem wordsE_set (pre : List Ext) (x : Ext) (h : pre.length < 10) : (wordsE pre).set pre.length (wordE x) = wordsE (pre ++ [x]) := by
 unfold wordsE
 obtain ⟨m,hm⟩ : ∃ m,10 - pre.length = m + 1 := ⟨9 - pre.length,by omega⟩
 have hm2 : 10 - (pre ++ [x]).length = m := by simp; omega
 rw [hm,hm2,List.set_append_right _ _ (by simp),List.length_map,Nat.sub_self,List.replicate_succ,List.set_cons_zero,List.map_append,List.append_assoc]
 rfl
theorem wordsE_nil : wordsE [] = List.replicate 10 0 := rfl
theorem z10 : List.replicate 10 (AV.int .u64 0) = encs u64A (wordsE []) := by rw [encs_mapU,wordsE_nil,List.map_replicate]
def fieldsA (x : Ext) : List AV := [.int .i64 16,.int .i64 x.1,.int .i64 24,.int .i64 x.2.1,.int .i64 16,.int .i64 x.2.2]
theorem word1_px (x : Ext) (hx : rightM x) (H : Heap) : pcx (cbL tab) 276 [.sl 2 3 [.int .i64 16,.int .i64 x.1,.int .i64 24,.int .i64 x.2.1,.int .i64 16,.int .i64 x.2.2] .ro] H = some (.plain (.int .u64 (wordE x))) := by
 refine pcx_N rfl (pc_wp (fi := c276) rfl rfl (by simp [c276]) (by decide) ?_)
 unfold c276
 have e1 : lend (.sl 2 3 [.int .i64 16,.int .i64 x.1,.int .i64 24,.int .i64 x.2.1,.int .i64 16,.int .i64 x.2.2] .ro) = .sl 2 3 [.int .i64 16,.int .i64 x.1,.int .i64 24,.int .i64 x.2.1,.int .i64 16,.int .i64 x.2.2] .ro := rfl
 rw [List.map_cons,List.map_nil,e1]
 obtain ⟨x1,x2,x3,x4,x5,x6,x7⟩ := hx
 have i3 : ((3 : Nat) : Int) = 3 := rfl
 have i0 : (0 : Int).toNat = 0 := rfl
 have i1 : (1 : Int).toNat = 1 := rfl
 have i2 : (2 : Int).toNat = 2 := rfl
 have ea : (0 : Int) + 1 = 1 := rfl
 have eb : (1 : Int) + 1 = 2 := rfl
 have ec : (2 : Int) + 1 = 3 := rfl
 have f1 : (0 : Int) + 16 = 16 := rfl
 have f2 : (16 : Int) + 24 = 40 := rfl
 have f3 : (40 : Int) + 16 = 56 := rfl
 have v1 : IntKind.u64.wrap x.1 = x.1 := wrap_u64 (by omega) (by omega)
 have v2 : IntKind.u64.wrap x.2.1 = x.2.1 := wrap_u64 (by omega) (by omega)
 have v3 : IntKind.u64.wrap x.2.2 = x.2.2 := wrap_u64 (by omega) (by omega)
 have a1 := fun H => w016 x.1 x1 (by omega) H
 have a2 := fun H => w1624 x.1 x.2.1 x1 (by omega) (by omega) (by omega) H
 have a3 := fun H => w4016 (x.1 + 65536 * x.2.1) x.2.2 (by omega) (by omega) (by omega) (by omega) H
 simp (disch := omega) only [wk,tupled,↓reduceIte,reduceEqDiff,reduceEq,reduceAdd,reduceCtorEq,i3]
 rw [ret_loop]
 simp (disch := omega) only [wk,tupled,↓reduceIte,reduceEqDiff,reduceEq,reduceAdd,reduceCtorEq,i3,i0,i1,i2,ea,eb,f1,v1,a1]
 refine ret_again (by decide) (.inl rfl) ?_
 rw [ret_loop]
 simp (disch := omega) only [wk,tupled,↓reduceIte,reduceEqDiff,reduceEq,reduceAdd,reduceCtorEq,i3,i0,i1,i2,ea,eb,f2,v2,a2]
 refine ret_again (by decide) (.inl rfl) ?_
 rw [ret_loop]
 simp (disch := omega) only [wk,tupled,↓reduceIte,reduceEqDiff,reduceEq,reduceAdd,reduceCtorEq,i3,i0,i1,i2,ea,eb,ec,f3,v3,a3]
 refine ret_again (by decide) (.inl rfl) ?_
 rw [ret_loop]
 simp (disch := omega) only [wk,tupled,↓reduceIte,reduceEqDiff,reduceEq,reduceAdd,reduceCtorEq,i3,purify,unownT,lend,unown,AV.hf]
 rfl
def arrV (w : List Int) : AV := .agg (encs u64A w)
def xwR (l : List Ext) : List Int × Int := if (ofM l).isSome then (wordsE l,0) else (wordsE [],2)
def xwV (x : List Int × Int) : AV := .tup [arrV x.1,.int .i64 x.2]
theorem flat_arr (t : List Int) : (AV.agg (encs u64A t)).flat = encs u64A t := rfl
theorem unown_encsU (t : List Int) : (encs u64A t).map unown = encs u64A t := by
 rw [encs_mapU,List.map_map]
 congr 1
theorem unownT_arr (t : List Int) (e : Int) : unownT (.tup [.agg (encs u64A t),.int .i64 e]) = .tup [.agg (encs u64A t),.int .i64 e] := by
 simp only [unownT,List.map_cons,List.map_nil,lend,unown_encsU,unown]
theorem purify_xw (w : List Int) (e : Int) (H : Heap) : purify (some (.ret (.tup [.agg (encs u64A w),.int .i64 e]),H)) = some (.plain (xwV (w,e))) := by
 have h : (AV.tup [.agg (encs u64A w),.int .i64 e]).hf = true := by
   simp [AV.hf,hf_u64A,hfL]
 show (if (unownT (.tup [.agg (encs u64A w),.int .i64 e])).hf then some (PR.plain (unownT (.tup [.agg (encs u64A w),.int .i64 e]))) else none) = _
 rw [unownT_arr,if_pos h]; rfl
theorem tk10 (w : List Int) (h : w.length = 10) : List.take 10 (encs u64A w) = encs u64A w := List.take_of_length_le (by rw [lenU,h]; exact Nat.le_refl _)
theorem dr10 (w : List Int) (h : w.length = 10) : List.drop 10 (encs u64A w) = [] := List.drop_of_length_le (by rw [lenU,h]; exact Nat.le_refl _)
theorem isSome_right {l : List Ext} (h : (ofM l).isSome = true) : l.length <= 10 /\ ∀ x ∈ l,rightM x := by
 obtain ⟨t,ht⟩ := Option.isSome_iff_exists.1 h
 obtain ⟨h1,h2,_⟩ := ofM_spec ht
 exact ⟨h1,layL_right h2⟩
theorem xwords_px (l : List Ext) (s : Nat) (rest : List AV) (tk : Tk) (hz : l ≠ [] -> s = 3) (hr : hfL rest = true) (hn : l.length <= 1000) (H : Heap) :
   pcx (cbL tab) 240 [.sl s l.length (encs extA l ++ rest) tk] H = some (.plain (xwV (xwR l))) := by
 obtain ⟨u1,e1,f1⟩ := lend_sl s l.length (encs extA l ++ rest) tk
 refine pcx_N rfl (pc_wp (fi := c240) rfl ?_ (by simp [c240]) (by decide) ?_)
 . simp only [pcOn,List.map_cons,List.map_nil,hfL,hf_lend_sl,hf_lend_int,hf_lend_bool,hf_lend_str,hfL_append,Bool.and_self,Bool.and_true,Bool.true_and,c240,hf_extA,hr]
 unfold c240
 rw [List.map_cons,List.map_nil,e1,z10]
 have ck := fun H => xcheck_px l _ ⟨s,rest,u1,rfl,hz,hr,f1⟩ hn H
 have ee : errE l = if (ofM l).isSome then 0 else 2 := rfl
 have n10 : (wordsE []).length = 10 := rfl
 have lz := lenU (wordsE [])
 have tz := tk10 (wordsE []) rfl
 have dz := dr10 (wordsE []) rfl
 have oz := one_u64A (wordsE [])
 have pz := fun e H => purify_xw (wordsE []) e H
 cases hs : (ofM l).isSome with
 | false =>
   rw [hs] at ee
   have e : xwR l = (wordsE [],2) := by unfold xwR; rw [hs]; rfl
   have ee' : errE l = 2 := ee
   rw [ee'] at ck
   simp (disch := omega) only [wk,tupled,↓reduceIte,reduceEqDiff,reduceEq,reduceAdd,reduceCtorEq,ck,n10,lz,tz,dz,oz,pz,e,flat_arr,List.append_nil]
 | true =>
   rw [hs] at ee
   have e : xwR l = (wordsE l,0) := by unfold xwR; rw [hs]; rfl
   have ee' : errE l = 0 := ee
   rw [ee'] at ck
   obtain ⟨hl10,hright⟩ := isSome_right hs
   simp (disch := omega) only [wk,tupled,↓reduceIte,reduceEqDiff,reduceEq,reduceAdd,reduceCtorEq,ck]
   refine loop_ind (fun (x : List Ext × List Ext) E df H1 => l = x.1 ++ x.2 /\ H1[0]? = some (.cells (encs u64A (wordsE x.1))) /\ E 2 = .ptr 0 0 /\ E 3 = .int .i64 0 /\ E 12 = .sl s l.length (encs extA l ++ rest) u1 /\ E 13 = .int .i64 (l.length : Nat) /\ E 14 = .int .i64 (x.1.length : Nat) /\ df = [])
     (fun x => x.2.length) ([],l) (by decide) (.inl rfl) ⟨rfl,rfl,rfl,rfl,rfl,rfl,rfl,rfl⟩ ?_
   intro ⟨pre,suf⟩ E df H1 ih hP
   obtain ⟨a1,h0,E2,E3,E12,E13,E14,hdf⟩ := hP
   dsimp only at a1 h0 E14
   subst hdf
   have hl : l.length = pre.length + suf.length := by rw [a1,List.length_append]
   have s10 : 0 < H1.length := (List.getElem?_eq_some_iff.1 h0).1
   have wl := wordsE_len (l := pre) (by omega)
   have lw := lenU (wordsE pre)
   cases suf with
   | nil =>
     rw [List.append_nil] at a1
     subst a1
     have tw := tk10 _ wl
     have dw := dr10 _ wl
     have ow := one_u64A (wordsE l)
     have pw := fun e H => purify_xw (wordsE l) e H
     have sg : (H1.set 0 (.cells (encs u64A (wordsE l))))[0]? = some (.cells (encs u64A (wordsE l))) := List.getElem?_set_self s10
     simp (disch := omega) only [wk,tupled,↓reduceIte,reduceEqDiff,reduceEq,reduceAdd,reduceCtorEq,E2,E3,E12,E13,E14,h0,wl,lw,tw,dw,ow,pw,sg,e,flat_arr,List.append_nil]
   | cons x r =>
     simp only [List.length_cons] at hl
     obtain rfl := hz (by rw [a1]; simp)
     have dd := edrop pre x r rest
     rw [<- a1] at dd
     have n1 : (pre.length : Int) < (l.length : Int) := by omega
     have n2 : (pre.length : Int) < 10 := by omega
     have nx : ∀ A : AObj,(H1 ++ [A])[H1.length]? = some A := fun A => by simp
     have stx : ∀ A B : AObj,(H1 ++ [A]).set H1.length B = H1 ++ [B] := fun A B => by simp
     have h0a : ∀ A : AObj,(H1 ++ [A])[0]? = some (.cells (encs u64A (wordsE pre))) := fun A => by rw [List.getElem?_append_left s10]; exact h0
     have wp := fun H => word1_px x (hright x (by rw [a1]; simp)) H
     have su := setU (wordsE pre) pre.length (wordE x) (by omega)
     rw [wordsE_set pre x (by omega)] at su
     simp (disch := omega) only [wk,tupled,↓reduceIte,reduceEqDiff,reduceEq,reduceAdd,reduceCtorEq,E2,E3,E12,E13,E14,n1,n2,dd,nx,stx,h0a,wp,lw,wl,su,Nat.zero_add]
     refine ih (pre ++ [x],r) _ _ _ (by simp) ?_
     exact ⟨by simp [a1],List.getElem?_set_self (by simp),by simp only [en,↓reduceIte,reduceEqDiff,E2],by simp only [en,↓reduceIte,reduceEqDiff,E3],by simp only [en,↓reduceIte,reduceEqDiff,E12],by simp only [en,↓reduceIte,reduceEqDiff,E13],by simp only [en,↓reduceIte,reduceEqDiff],rfl⟩
def layD : List AV := [.int .i64 64,.int .i64 8,.int .i64 64,.int .i64 8,.int .u64 1,.int .u64 2,.int .i64 9,.int .i64 11,.int .i64 27,.int .i64 28]
def stW (W : List Int) (l : List (Int × Int)) : List Int := l.foldl (fun w p => w.set p.1.toNat p.2) W
def mvP (a : Int) (l : List (Int × Int)) : List (Int × Int) := l.map fun p => (p.1 + a,p.2)
theorem stW_append (W : List Int) (l k : List (Int × Int)) : stW W (l ++ k) = stW (stW W l) k := List.foldl_append
theorem stW_len : ∀ (l : List (Int × Int)) (W : List Int),(stW W l).length = W.length
 | [],_ => rfl
 | p :: l,W => by
   show (stW (W.set p.1.toNat p.2) l).length = _
   rw [stW_len l,List.length_set]
theorem mvP_append (a : Int) (l k : List (Int × Int)) : mvP a (l ++ k) = mvP a l ++ mvP a k := List.map_append
theorem mvP_len (a : Int) (l : List (Int × Int)) : (mvP a l).length = l.length := List.length_map ..
structure UAt (H : Heap) (u w : Nat) (W : List Int) (out : List (Int × Int)) : Prop where
 ne : u ≠ w
 wd : H[w]? = some (.cells (encs u64A W))
 ob : ∃ v,H[u]? = some (.cells (layD ++ [.msl 1 w 0 W.length,v])) /\ Own H 2 v out.length (encs putA out) /\ ∀ a b c,v ≠ .sl a b c .e
structure UKeep (u w : Nat) (H H' : Heap) : Prop where
 keep : ∀ i o,i ≠ u -> i ≠ w -> (∀ s,o ≠ .tok s) -> H[i]? = some o -> H'[i]? = some o
 len : H.length <= H'.length
theorem UKeep.refl (u w : Nat) (H : Heap) : UKeep u w H H := ⟨fun _ _ _ _ _ h => h,Nat.le_refl _⟩
theorem UKeep.trans {u w : Nat} {A B C : Heap} (h : UKeep u w A B) (k : UKeep u w B C) : UKeep u w A C :=
 ⟨fun i o h1 h2 h3 h4 => k.keep i o h1 h2 h3 (h.keep i o h1 h2 h3 h4),Nat.le_trans h.len k.len⟩
theorem set_eqU {H : Heap} {i : Nat} {o p : AObj} (h : H[i]? = some o) : (H.set i p)[i]? = some p := List.getElem?_set_self (List.getElem?_eq_some_iff.1 h).1
theorem set_neU {H : Heap} {i j : Nat} {p : AObj} (h : i ≠ j) : (H.set i p)[j]? = H[j]? := List.getElem?_set_ne h
theorem does_ic {H : Heap} {u w : Nat} {W : List Int} {out : List (Int × Int)} (hU : UAt H u w W out) (hW : W.length <= 1000000) (ho : out.length <= 100000) (a : Int) (ha : 0 <= a /\ a <= 1000000) (l : List (Int × Int)) (hl : l.length <= 100000)
   (hp : ∀ p ∈ l,0 <= p.1 /\ p.1 <= 1000000 /\ p.1 + a < W.length) (s : Nat) (tk : Tk) (hs : l ≠ [] -> s = 2) :
   ∃ H',(cbL tab).ic 40 [.ptr u 0,.int .i64 a,.sl s l.length (encs putA l) tk] H = some (.ret (.tup []),H') /\ UAt H' u w (stW W (mvP a l)) (out ++ mvP a l) /\ UKeep u w H H' := by
 have key : ∃ o H',(cbL tab).ic 40 [.ptr u 0,.int .i64 a,.sl s l.length (encs putA l) tk] H = some (o,H') /\ o = .ret (.tup []) /\ UAt H' u w (stW W (mvP a l)) (out ++ mvP a l) /\ UKeep u w H H' := by
   refine ic_wp (fi := c40) rfl rfl (by simp [c40]) (by decide) ?_
   unfold c40
   simp (disch := omega) only [wk,tupled,↓reduceIte,reduceEqDiff,reduceEq,reduceAdd,reduceCtorEq]
   refine loop_ind (fun (x : List (Int × Int) × List (Int × Int)) E df H' => l = x.1 ++ x.2 /\ E 0 = .ptr u 0 /\ E 1 = .int .i64 a /\ E 8 = .sl s l.length (encs putA l) tk /\ E 9 = .int .i64 (l.length : Nat) /\ E 10 = .int .i64 (x.1.length : Nat) /\ df = [] ∧
       UAt H' u w (stW W (mvP a x.1)) (out ++ mvP a x.1) /\ UKeep u w H H')
     (fun x => x.2.length) ([],l) (by decide) (.inl rfl) ⟨rfl,rfl,rfl,rfl,rfl,rfl,rfl,by simpa [mvP,stW] using hU,.refl u w H⟩ ?_
   intro ⟨pre,suf⟩ E df H1 ih hP
   obtain ⟨a1,E0,E1,E8,E9,E10,hdf,gU,gK⟩ := hP
   dsimp only at a1 E10 gU
   subst hdf
   have hll : l.length = pre.length + suf.length := by rw [a1,List.length_append]
   cases suf with
   | nil =>
     simp only [List.append_nil,List.length_nil,Nat.add_zero] at a1 hll
     subst a1
     simp (disch := omega) only [wk,tupled,↓reduceIte,reduceEqDiff,reduceEq,reduceAdd,reduceCtorEq,E0,E1,E8,E9,E10]
     exact ⟨gU,gK⟩
   | cons x r =>
     simp only [List.length_cons] at hll
     obtain ⟨x1,x2⟩ := x
     obtain ⟨b1,b2,b3⟩ := hp (x1,x2) (by rw [a1]; simp)
     dsimp only at b1 b2 b3
     obtain rfl := hs (by rw [a1]; simp)
     obtain ⟨gne,gw,v,gu,gown,gv⟩ := gU
     have hul : u < H1.length := (List.getElem?_eq_some_iff.1 gu).1
     have hwl : w < H1.length := (List.getElem?_eq_some_iff.1 gw).1
     have f1 : ∀ o : AObj,(H1 ++ [o])[H1.length]? = some o := fun o => by simp
     have f2 : ∀ o o' : AObj,((H1 ++ [o]).set H1.length o')[H1.length]? = some o' := fun o o' => by simp
     have f3 : ∀ o o' o'' : AObj,(((H1 ++ [o]).set H1.length o').set H1.length o'')[H1.length]? = some o'' := fun o o' o'' => by simp
     have f4 : ∀ (o o' o'' : AObj) (i : Nat),i < H1.length -> (((H1 ++ [o]).set H1.length o').set H1.length o'')[i]? = H1[i]? := fun o o' o'' i hi => by
       rw [List.getElem?_set_ne (by omega),List.getElem?_set_ne (by omega),List.getElem?_append_left (by omega)]
     have f5 := fun o o' o'' => (f4 o o' o'' u hul).trans gu
     have f6 := fun o o' o'' => (f4 o o' o'' w hwl).trans gw
     have W1l : (stW W (mvP a pre)).length = W.length := stW_len _ _
     generalize hW1 : stW W (mvP a pre) = W1 at *
     have hstep : stW W (mvP a (pre ++ [(x1,x2)])) = W1.set (x1 + a).toNat x2 := by rw [mvP_append,stW_append,hW1]; rfl
     have dd : List.drop (pre.length * 2) (encs putA l) = .int .i64 x1 :: .int .u64 x2 :: encs putA r := by rw [a1,drop_pre,encs_cons]; rfl
     have lW := lenU W1
     unfold layD at f5
     simp only [List.cons_append,List.nil_append] at f5
     have hown2 : (out ++ mvP a pre).length <= 200000 := by rw [List.length_append,mvP_len]; omega
     have hwl' : w ≠ H1.length := by omega
     have f7 : ∀ o o' o'' q : AObj,((((H1 ++ [o]).set H1.length o').set H1.length o'').set w q)[u]? = some (.cells [.int .i64 64,.int .i64 8,.int .i64 64,.int .i64 8,.int .u64 1,.int .u64 2,.int .i64 9,.int .i64 11,.int .i64 27,.int .i64 28,.msl 1 w 0 W1.length,v]) := fun o o' o'' q => by
       rw [List.getElem?_set_ne (Ne.symm gne)]; exact f5 o o' o''
     have f8 : ∀ o o' o'' q : AObj,((((H1 ++ [o]).set H1.length o').set H1.length o'').set w q)[H1.length]? = some o'' := fun o o' o'' q => by
       rw [List.getElem?_set_ne hwl']; exact f3 o o' o''
     have o4 : ∀ (c c' c'' q : List AV),Own ((((H1 ++ [AObj.cells c]).set H1.length (AObj.cells c')).set H1.length (AObj.cells c'')).set w (AObj.cells q)) 2 v (out ++ mvP a pre).length (encs putA (out ++ mvP a pre)) := fun c c' c'' q =>
       (((gown.kept (g := none) (fun id q hq _ => by rw [List.getElem?_append_left (List.getElem?_eq_some_iff.1 hq).1]; exact hq) (.inl rfl)).set (f1 (.cells c)) (by intro s e; cases e)).set (f2 _ _) (by intro s e; cases e)).set (f6 (.cells c) (.cells c') (.cells c'')) (by intro s e; cases e)
     simp (disch := omega) only [wk,tupled,↓reduceIte,reduceEqDiff,reduceEq,reduceAdd,reduceCtorEq,E0,E1,E8,E9,E10,dd,f1,f2,f3,f5,f6,f7,f8,lW]
     have e0 : 0 + (x1 + a).toNat = (x1 + a).toNat := Nat.zero_add _
     rw [e0,setU _ _ _ (by rw [W1l]; omega)]
     refine runX_app (o4 _ _ _ _) (by omega) (by omega) (by omega) (by omega) rfl rfl (fun H' q1 q2 q3 => ?_)
     have k1 := q2.cells (o4 _ _ _ _) rfl (f7 _ _ _ _) (by intro s e; cases e)
     generalize hv' : AV.sl 2 _ _ (.own _) = v2 at q1
     have v2o : v2.one = true /\ v2.flat = [v2] := by rw [<- hv']; exact ⟨rfl,rfl⟩
     have kw := q2.cells (o4 _ _ _ _) rfl (set_eqU (f6 _ _ _)) (by intro s e; cases e)
     have v2e : ∀ a b c,v2 ≠ .sl a b c .e := by intro a b c e; rw [<- hv'] at e; cases e
     simp (disch := omega) only [wk,tupled,↓reduceIte,reduceEqDiff,reduceEq,reduceAdd,reduceCtorEq,E0,E10,k1,v2o.1,v2o.2]
     have ep : x1 + a = ((x1,x2) : Int × Int).1 + a := rfl
     have eo : out ++ mvP a (pre ++ [(x1,x2)]) = (out ++ mvP a pre) ++ [(x1 + a,x2)] := by rw [mvP_append,List.append_assoc]; rfl
     refine ih (pre ++ [(x1,x2)],r) _ _ _ (by simp) ⟨by simp [a1],by simp only [en,↓reduceIte,reduceEqDiff,E0],by simp only [en,↓reduceIte,reduceEqDiff,E1],by simp only [en,↓reduceIte,reduceEqDiff,E8],by simp only [en,↓reduceIte,reduceEqDiff,E9],by simp only [en,↓reduceIte,reduceEqDiff],rfl, ?_, ?_⟩
     . dsimp only
       rw [hstep,eo]
       refine ⟨gne, ?_,v2, ?_, ?_,v2e⟩
       . rw [set_neU gne]; exact kw
       . rw [set_eqU k1,List.length_set]; rfl
       . rw [List.length_append,encs_append]
         exact q1.set k1 (by intro s e; cases e)
     . refine gK.trans ⟨fun i o h1 h2 h3 h4 => ?_, ?_⟩
       . have hi := (List.getElem?_eq_some_iff.1 h4).1
         rw [set_neU (Ne.symm h1)]
         refine q2.cells (o4 _ _ _ _) rfl ?_ h3
         rw [set_neU (Ne.symm h2),f4 _ _ _ i hi]
         exact h4
       . rw [List.length_set]
         simp only [List.length_set,List.length_append,List.length_singleton] at q3
         omega
 obtain ⟨o,H',h1,rfl,h2,h3⟩ := key
 exact ⟨H',h1,h2,h3⟩
def stA (W : List Int) (p : Int × Int) : List Int := if 0 <= p.1 /\ p.1 < W.length then W.set p.1.toNat p.2 else W
def apW (W : List Int) (l : List (Int × Int)) : List Int := l.foldl stA W
theorem stA_len (W : List Int) (p : Int × Int) : (stA W p).length = W.length := by
 unfold stA
 split
 . rw [List.length_set]
 . rfl
theorem apW_len : ∀ (l : List (Int × Int)) (W : List Int),(apW W l).length = W.length
 | [],_ => rfl
 | p :: l,W => (apW_len l (stA W p)).trans (stA_len W p)
theorem scal_u64A (W : List Int) : (encs u64A W).all (·.scal) = true := by
 rw [List.all_eq_true]
 intro x hx
 obtain ⟨y,_,hy⟩ := List.mem_flatMap.1 hx
 simp only [u64A,List.mem_singleton] at hy
 subst hy
 rfl
theorem apply_pc2 (W : List Int) (l : List (Int × Int)) (rest : List AV) (hr : hfL rest = true) (s : Nat) (t1 tk : Tk) (h0 : W ≠ []) (hW : W.length <= 1000000) (hl : l.length <= 1000000) (hs : l ≠ [] -> s = 2) :
   (cbL tab).pc 15 [.sl 1 W.length (encs u64A W) t1,.sl s l.length (encs putA l ++ rest) tk] = some (.fresh 1 W.length (encs u64A (apW W l))) := by
 obtain ⟨u1,e1,f1⟩ := lend_sl 1 W.length (encs u64A W) t1
 obtain ⟨u2,e2,f2⟩ := lend_sl s l.length (encs putA l ++ rest) tk
 have hc := hf_u64A W
 have hp : hfL (encs putA l) = true := hfL_encs (fun _ => rfl) l
 have lW := lenU W
 have oW := one_u64A W
 have h00 : W.length ≠ 0 := fun e => h0 (List.eq_nil_of_length_eq_zero e)
 refine pc_wp (fi := c15) rfl ?_ (by simp [c15]) (by decide) ?_
 . simp only [pcOn,List.map_cons,List.map_nil,hfL,hf_lend_sl,hf_lend_int,hf_lend_bool,hf_lend_str,hfL_append,Bool.and_self,Bool.and_true,Bool.true_and,c15,hc,hp,hr]
 unfold c15
 rw [List.map_cons,List.map_cons,List.map_nil,e1,e2]
 have ap : appR 1 8 (.sl 1 0 [] .e) (.sl 1 W.length (encs u64A W) u1) [] = some (.val (.rsl 1 0 W.length),[.cells (encs u64A W)]) := by
   have ht : (encs u64A W).take (W.length * 1) = encs u64A W := List.take_of_length_le (by omega)
   have g1 : W.length * 8 <= 70368744177664 := by omega
   have g2 : W.length <= 70368744177664 := by omega
   have g3 : W.length * 1 <= (encs u64A W).length := by omega
   simp only [appR,ht,h00,oW,g1,g2,g3,Tk.empty,ne_eq,not_false_eq_true,and_self,if_true,Nat.lt_one_iff,Nat.zero_lt_one,List.length_nil,List.nil_append]
 simp (disch := omega) only [wk,tupled,↓reduceIte,reduceEqDiff,reduceEq,reduceAdd,reduceCtorEq,ap]
 refine loop_ind (fun (x : List (Int × Int) × List (Int × Int)) E df H => l = x.1 ++ x.2 /\ E 1 = .sl s l.length (encs putA l ++ rest) u2 /\ E 5 = .rsl 1 0 W.length /\ E 6 = .int .i64 (x.1.length : Nat) /\ df = [] /\ H = [.cells (encs u64A (apW W x.1))])
   (fun x => x.2.length) ([],l) (by decide) (.inl rfl) ⟨rfl,rfl,rfl,rfl,rfl,rfl⟩ ?_
 intro ⟨pre,suf⟩ E df H ih hP
 obtain ⟨a1,E1,E5,E6,hdf,hH⟩ := hP
 dsimp only at a1 E6 hH
 subst hdf hH
 have hll : l.length = pre.length + suf.length := by rw [a1,List.length_append]
 have lV := apW_len pre W
 cases suf with
 | nil =>
   simp only [List.append_nil,List.length_nil,Nat.add_zero] at a1 hll
   rw [<- a1] at lV ⊢
   have k1 : (encs u64A (apW W l)).length = W.length * 1 := by rw [lenU,lV]; omega
   have k2 := hf_u64A (apW W l)
   simp (disch := omega) only [wk,tupled,↓reduceIte,reduceEqDiff,reduceEq,reduceAdd,reduceCtorEq,E1,E5,E6,purify,k1,k2,h00]
 | cons x r =>
   simp only [List.length_cons] at hll
   obtain ⟨x1,x2⟩ := x
   obtain rfl := hs (by rw [a1]; simp)
   have dd : List.drop (pre.length * 2) (encs putA l ++ rest) = .int .i64 x1 :: .int .u64 x2 :: (encs putA r ++ rest) := by rw [a1,drop_pre2,encs_cons]; rfl
   have hstep : apW W (pre ++ [(x1,x2)]) = stA (apW W pre) (x1,x2) := by unfold apW; rw [List.foldl_append]; rfl
   generalize hV : apW W pre = V at *
   have lVe := lenU V
   by_cases h1 : 0 <= x1
   . by_cases h2 : x1 < (W.length : Int)
     . have hst : stA V (x1,x2) = V.set x1.toNat x2 := if_pos ⟨h1,by rw [lV]; exact h2⟩
       simp (disch := omega) only [wk,tupled,↓reduceIte,reduceEqDiff,reduceEq,reduceAdd,reduceCtorEq,E1,E5,E6,dd,h1,h2,lVe]
       rw [setU V _ _ (by omega)]
       exact ih (pre ++ [(x1,x2)],r) _ _ _ (by simp) ⟨by simp [a1],by simp only [en,↓reduceIte,reduceEqDiff,E1],by simp only [en,↓reduceIte,reduceEqDiff,E5],by simp only [en,↓reduceIte,reduceEqDiff],rfl,by rw [hstep,hst]⟩
     . have hst : stA V (x1,x2) = V := if_neg (fun h => h2 (by rw [<- lV]; exact h.2))
       simp (disch := omega) only [wk,tupled,↓reduceIte,reduceEqDiff,reduceEq,reduceAdd,reduceCtorEq,E1,E5,E6,dd,h1,h2]
       exact ih (pre ++ [(x1,x2)],r) _ _ _ (by simp) ⟨by simp [a1],by simp only [en,↓reduceIte,reduceEqDiff,E1],by simp only [en,↓reduceIte,reduceEqDiff,E5],by simp only [en,↓reduceIte,reduceEqDiff],rfl,by rw [hstep,hst]⟩
   . have hst : stA V (x1,x2) = V := if_neg (fun h => h1 h.1)
     simp (disch := omega) only [wk,tupled,↓reduceIte,reduceEqDiff,reduceEq,reduceAdd,reduceCtorEq,E1,E5,E6,dd,h1]
     exact ih (pre ++ [(x1,x2)],r) _ _ _ (by simp) ⟨by simp [a1],by simp only [en,↓reduceIte,reduceEqDiff,E1],by simp only [en,↓reduceIte,reduceEqDiff,E5],by simp only [en,↓reduceIte,reduceEqDiff],rfl,by rw [hstep,hst]⟩
theorem apply_pc (W : List Int) (l : List (Int × Int)) (s : Nat) (t1 tk : Tk) (h0 : W ≠ []) (hW : W.length <= 1000000) (hl : l.length <= 1000000) (hs : l ≠ [] -> s = 2) :
   (cbL tab).pc 15 [.sl 1 W.length (encs u64A W) t1,.sl s l.length (encs putA l) tk] = some (.fresh 1 W.length (encs u64A (apW W l))) := by
 have := apply_pc2 W l [] rfl s t1 tk h0 hW hl hs
 rw [List.append_nil] at this
 exact this
theorem apply_px {x : AV} {H : Heap} {W : List Int} {t1 : Tk} (hx : lendK H 4 x = .sl 1 W.length (encs u64A W) t1) (l : List (Int × Int)) (rest : List AV) (hr : hfL rest = true) (s : Nat) (tk : Tk) (h0 : W ≠ []) (hW : W.length <= 1000000) (hl : l.length <= 1000000) (hs : l ≠ [] -> s = 2) :
   pcx (cbL tab) 15 [x,.sl s l.length (encs putA l ++ rest) tk] H = some (.fresh 1 W.length (encs u64A (apW W l))) := by
 unfold pcx
 rw [if_pos (show (cbL tab).lent 15 = true from rfl)]
 unfold enterL
 rw [List.map_cons,List.map_cons,List.map_nil,hx,lendK_sl,apply_pc2 W l rest hr s t1 tk h0 hW hl hs]
 simp only [scal_u64A,if_true]
theorem lendK_u (H : Heap) (k : Nat) (W : List Int) : (encs u64A W).map (lendK H k) = encs u64A W := by
 induction W with
 | nil => rfl
 | cons x r ih =>
   rw [encs_cons,List.map_append,ih]
   show [lendK H k (.int .u64 x)] ++ _ = _
   rw [lendK_int]
   rfl
theorem lendK_words {H : Heap} {id k : Nat} {W : List Int} (h : H[id]? = some (.cells (encs u64A W))) : lendK H (k + 1) (.msl 1 id 0 W.length) = .sl 1 W.length (encs u64A W) .ro := by
 have l := lenU W
 rw [lendK]
 simp only [h]
 rw [if_pos (by omega),List.drop_zero,List.take_of_length_le (by omega),lendK_u]
theorem apply_m {H : Heap} {id : Nat} {W : List Int} {l : List (Int × Int)} {s : Nat} {tk : Tk} (h : H[id]? = some (.cells (encs u64A W))) (h0 : W ≠ []) (hW : W.length <= 1000000) (hl : l.length <= 1000000) (hs : l ≠ [] -> s = 2) :
   enterM (cbL tab) false 15 [.msl 1 id 0 W.length,.sl s l.length (encs putA l) tk] H = some (.ret (.msl 1 H.length 0 W.length),H ++ [.cells (encs u64A (apW W l))]) := by
 have key := apply_pc W l s .ro tk h0 hW hl hs
 have e : pcx (cbL tab) 15 [.msl 1 id 0 W.length,.sl s l.length (encs putA l) tk] H = some (.fresh 1 W.length (encs u64A (apW W l))) := by
   unfold pcx
   rw [if_pos (show (cbL tab).lent 15 = true from rfl)]
   unfold enterL
   rw [List.map_cons,List.map_cons,List.map_nil,lendK_words h,lendK_sl,key]
   simp only [scal_u64A,if_true]
 have lA : (encs u64A (apW W l)).length = W.length * 1 := by rw [lenU,apW_len]; omega
 unfold enterM
 rw [e]
 simp only [scal_u64A,lA,beq_self_eq_true,Bool.and_self,if_true,Bool.false_eq_true,if_false]
def prA (p : Int × Int) : List AV := [.int .u64 p.1,.int .u64 p.2]
instance : Even prA 2 := ⟨fun _ => rfl⟩
def nmF (n0 n1 n2 d : Nat) : Nat := if d = 0 then n0 else if d = 1 then n1 else n2
def pairsF (rc : Nat) : Nat -> List (Int × Int)
 | 0 => []
 | n + 1 => pairsF rc n ++ [(((3 * n + 3 : Nat) : Int),((rc + n : Nat) : Int))]
theorem pairsF_len (rc : Nat) : ∀ n,(pairsF rc n).length = n
 | 0 => rfl
 | n + 1 => by rw [pairsF,List.length_append,pairsF_len rc n]; rfl
def twoP (d : Nat) : List (Int × Int) := if d = 0 then [(1000,61),(1001,62)] else []
def freeF (b : Nat) : Nat -> List Int
 | 0 => []
 | n + 1 => freeF b n ++ [((b + n : Nat) : Int)]
theorem freeF_len (b : Nat) : ∀ n,(freeF b n).length = n
 | 0 => rfl
 | n + 1 => by rw [freeF,List.length_append,freeF_len b n]; rfl
def putW (W : List Int) (a : Nat) (w : List Int) : List Int := W.take a ++ w ++ W.drop (a + w.length)
structure Bt where
 root : Nat
 puts : List (Int × Int)
 used : Nat
structure Steps (n0 n1 n2 : Nat) (bt : Nat -> Bt) (S : List Int) (dw : Nat -> List Int) (W : Nat -> List Int) (b rc : Nat -> Nat) : Prop where
 form : ∀ H,pcx (cbL tab) 24 [.agg [.int .i64 64,.int .i64 8,.int .i64 64,.int .i64 8],.agg [.int .u64 1,.int .u64 2]] H = some (.plain (.tup [.agg layD,.int .i64 0]))
 super : ∀ H,pcx (cbL tab) 25 [.agg layD] H = some (.fresh 1 64 (encs u64A S))
 slen : S.length = 64
 w0 : W 0 = putW (List.replicate 4096 0) 0 S
 b0 : b 0 = 28
 rc0 : rc 0 = 1
 ble : ∀ d,d <= 3 -> b d <= 64
 build : ∀ d,d < 3 -> ∀ v1 v2 H,lend v1 = slvR 2 prA (pairsF (rc d) (nmF n0 n1 n2 d) ++ twoP d) -> lend v2 = slvR 1 i64A (freeF (b d) (64 - b d)) -> pcx (cbL tab) 26 [v1,v2] H = some (.plain (.tup [.int .i64 ((bt d).root : Nat),slvR 2 putA (bt d).puts,.int .i64 ((bt d).used : Nat),.int .i64 0]))
 plen : ∀ d,(bt d).puts.length <= 100000
 dwl : ∀ d,(dw d).length = 16
 words : ∀ d,d < 3 -> ∀ H,pcx (cbL tab) 27 [.agg [.int .i64 2,.int .i64 1,.int .i64 0,.sl 0 0 [] .z,.int .i64 ((bt d).root : Nat),.int .i64 1,.str ⟨#[]⟩]] H = some (.plain (.tup [.sl 1 16 (encs u64A (dw d)) .ro,.int .i64 0]))
 wS : ∀ d,W (d + 1) = putW (apW (W d) (bt d).puts) (576 + 16 * d) (dw d)
 bS : ∀ d,b (d + 1) = b d + (bt d).used
 rcS : ∀ d,rc (d + 1) = rc d + nmF n0 n1 n2 d
 at_ : ∀ d,d < 3 -> ∀ H,pcx (cbL tab) 11 [.agg layD,.int .i64 ((d : Nat) + 1)] H = some (.plain (.int .i64 ((576 + 16 * d : Nat) : Int)))
structure KT (H H' : Heap) : Prop where
 keep : ∀ (k : Nat) (o : AObj),(∀ s,o ≠ .tok s) -> H[k]? = some o -> H'[k]? = some o
 len : H.length <= H'.length
theorem KT.refl (H : Heap) : KT H H := ⟨fun _ _ _ h => h,Nat.le_refl _⟩
theorem KT.trans {A B C : Heap} (h : KT A B) (k : KT B C) : KT A C := ⟨fun i o h1 h2 => k.keep i o h1 (h.keep i o h1 h2),Nat.le_trans h.len k.len⟩
theorem KT.of {H H' : Heap} {sz n : Nat} {v : AV} {cs : List AV} (ho : Own H sz v n cs) (h : Kept (tokOf v) H H') (hl : H.length < H'.length) : KT H H' := ⟨fun k o h1 h2 => h.cells ho rfl h2 h1,by omega⟩
theorem repL_u : ∀ n,repL n [AV.int .u64 0] = encs u64A (List.replicate n 0)
 | 0 => rfl
 | n + 1 => by rw [repL,repL_u n,List.replicate_succ,encs_cons]; rfl
theorem putW_len {W w : List Int} {a : Nat} (h : a + w.length <= W.length) : (putW W a w).length = W.length := by
 unfold putW
 rw [List.length_append,List.length_append,List.length_take,List.length_drop]
 omega
theorem putW_cells (W w : List Int) (a : Nat) : List.take a (encs u64A W) ++ encs u64A w ++ List.drop (a + w.length) (encs u64A W) = encs u64A (putW W a w) := by
 unfold putW
 rw [encs_append,encs_append]
 have h1 := encs_take (f := u64A) W a
 have h2 := encs_drop (f := u64A) W (a + w.length)
 rw [Nat.mul_one] at h1 h2
 rw [h1,h2]
theorem ret_gen {cb : CB} {rd : Option Nat} {n : Nat} {Q : KP} {ks : List Kt} {e : Ex} {E : Env} {df : List ADf} {H : Heap} (P : Env -> Heap -> Prop) (h : P E H) (k : ∀ E2 H2,P E2 H2 -> Ret cb rd n Q ks e E2 df H2) : Ret cb rd n Q ks e E df H := k E H h
structure MidP (H0 : Heap) (id bd rcn d : Nat) (p : List (Int × Int)) (Hd : Heap) (E : Env) (H : Heap) : Prop where
 e1 : E 1 = .ptr H0.length 0
 e3 : E 3 = .ptr (H0.length + 1) 0
 e5 : E 5 = .ptr (H0.length + 2) 0
 e7 : E 7 = .msl 1 id 0 4096
 e8 : E 8 = .int .i64 ((bd : Nat) : Int)
 e9 : E 9 = .int .i64 ((rcn : Nat) : Int)
 e10 : E 10 = .int .i64 ((d : Nat) : Int)
 e13 : E 13 = .sl 0 0 [] .z
 e14 : E 14 = .int .i64 ((bd : Nat) : Int)
 row : ∃ v,E 11 = v /\ lend v = slvR 2 prA p
 kt : KT Hd H
theorem made_ic {H0 : Heap} (hH0 : ∀ (i s : Nat),H0[i]? ≠ some (AObj.tok s)) {n0 n1 n2 : Nat} (hn : n0 + n1 + n2 <= 60) {bt : Nat -> Bt} {S : List Int} {dw : Nat -> List Int} {W : Nat -> List Int} {b rc : Nat -> Nat} (hs : Steps n0 n1 n2 bt S dw W b rc) :
   ∃ H' id,(cbL tab).ic 7 [.agg [.int .i64 (n0 : Nat),.int .i64 (n1 : Nat),.int .i64 (n2 : Nat)]] H0 = some (.ret (.tup [.msl 1 id 0 4096,.agg layD,.bool true]),H') /\ H'[id]? = some (.cells (encs u64A (W 3))) /\ (∀ i,i < H0.length -> H'[i]? = H0[i]?) /\ H0.length <= id := by
 have key : ∃ o H',(cbL tab).ic 7 [.agg [.int .i64 (n0 : Nat),.int .i64 (n1 : Nat),.int .i64 (n2 : Nat)]] H0 = some (o,H') /\ ∃ id,o = .ret (.tup [.msl 1 id 0 4096,.agg layD,.bool true]) /\ H'[id]? = some (.cells (encs u64A (W 3))) /\ (∀ i,i < H0.length -> H'[i]? = H0[i]?) /\ H0.length <= id := by
   refine ic_wp (fi := c7) rfl rfl (by simp [c7]) (by decide) ?_
   unfold c7
   have g0 : ∀ L : List AObj,(H0 ++ L)[H0.length]? = L[0]? := fun L => by rw [List.getElem?_append_right (Nat.le_refl _),Nat.sub_self]
   have gk : ∀ (L : List AObj) (k : Nat),(H0 ++ L)[H0.length + k]? = L[k]? := fun L k => by rw [List.getElem?_append_right (by omega)]; congr 1; omega
   have sk : ∀ (L : List AObj) (k : Nat) (o : AObj),(H0 ++ L).set (H0.length + k) o = H0 ++ L.set k o := fun L k o => by rw [List.set_append_right _ _ (by omega)]; congr 2; omega
   have fm := hs.form
   have su := hs.super
   have l10 : layD.length = 10 := rfl
   have o10 : allOne layD = true := rfl
   have t10 : List.take 10 layD = layD := rfl
   have m9 : layD[9]? = some (.int .i64 28) := rfl
   generalize hlay : layD = L0 at fm su l10 o10 t10 m9
   have i0 : Int.toNat 0 = 0 := rfl
   have i1 : Int.toNat 1 = 1 := rfl
   have i2 : Int.toNat 2 = 2 := rfl
   have mk : madeN 1 8 [.int .u64 0] (.int .i64 4096) (.int .i64 4096) = some 4096 := rfl
   have mn : min 64 4096 = 64 := rfl
   have lS : (encs u64A S).length = 64 := by rw [lenU,hs.slen]
   have oS := one_u64A S
   have tS : List.take 64 (encs u64A S) = encs u64A S := List.take_of_length_le (by omega)
   have rz := repL_u 4096
   have l4 : (encs u64A (List.replicate 4096 0)).length = 4096 := by rw [lenU,List.length_replicate]
   have W0 : encs u64A S ++ List.drop 64 (encs u64A (List.replicate 4096 0)) = encs u64A (W 0) := by
     rw [hs.w0,<- putW_cells,hs.slen]; rfl
   generalize hZ : encs u64A (List.replicate 4096 0) = Z at rz l4 W0
   simp (disch := omega) only [wk,tupled,↓reduceIte,reduceEqDiff,reduceEq,reduceAdd,reduceCtorEq,List.append_assoc,g0,gk,sk,fm,su,l10,o10,t10,m9,i0,i1,i2,mk,Nat.zero_add,List.append_nil,mn,lS,oS,tS,rz,l4,W0]
   have hWl : ∀ d,d <= 3 -> (W d).length = 4096 := by
     intro d
     induction d with
     | zero => intro _; rw [hs.w0,putW_len (by rw [hs.slen,List.length_replicate]; omega),List.length_replicate]
     | succ d ih => intro h; rw [hs.wS,putW_len (by rw [hs.dwl,apW_len,ih (by omega)]; omega),apW_len,ih (by omega)]
   refine loop_ind (fun (d : Nat) E df H => d <= 3 /\ E 1 = .ptr H0.length 0 /\ E 3 = .ptr (H0.length + 1) 0 /\ E 5 = .ptr (H0.length + 2) 0 /\ E 8 = .int .i64 ((b d : Nat) : Int) /\ E 9 = .int .i64 ((rc d : Nat) : Int) /\ E 10 = .int .i64 ((d : Nat) : Int) /\ df = [] ∧
       (∃ id,E 7 = .msl 1 id 0 4096 /\ H[id]? = some (.cells (encs u64A (W d))) /\ H0.length + 3 <= id) /\ (∀ i,i < H0.length -> H[i]? = H0[i]?) /\ H[H0.length]? = some (.cells [.int .i64 (n0 : Nat),.int .i64 (n1 : Nat),.int .i64 (n2 : Nat)]) ∧
       (∃ zs,H[H0.length + 1]? = some (.cells zs) /\ zs.length = 10) /\ H[H0.length + 2]? = some (.cells L0))
     (fun d => 3 - d) 0 (by decide) (.inl rfl) ⟨by omega,by simp only [en,↓reduceIte,reduceEqDiff],by simp only [en,↓reduceIte,reduceEqDiff],by simp only [en,↓reduceIte,reduceEqDiff],by simp only [en,↓reduceIte,reduceEqDiff,hs.b0]; rfl,by simp only [en,↓reduceIte,reduceEqDiff,hs.rc0]; rfl,by simp only [en,↓reduceIte,reduceEqDiff]; rfl,rfl,⟨H0.length + 3,by simp only [en,↓reduceIte,reduceEqDiff],by rw [gk]; rfl,Nat.le_refl _⟩,fun i hi => List.getElem?_append_left hi,by rw [g0]; rfl,⟨_,by rw [gk]; rfl,rfl⟩,by rw [gk]; rfl⟩ ?_
   intro d E df Hd ih hP
   obtain ⟨hd3,E1,E3,E5,E8,E9,E10,hdf,⟨id,E7,gw,hid⟩,gold,gn,⟨zs,gz,hz⟩,gl⟩ := hP
   subst hdf
   by_cases hd : d < 3
   case neg =>
     obtain rfl : d = 3 := by omega
     have d3 : ((3 : Nat) : Int) = 3 := rfl
     have d10 : List.drop 10 zs = [] := List.drop_of_length_le (by omega)
     have ga : ∀ o,(Hd.set (H0.length + 1) o)[H0.length + 1]? = some o := fun o => set_eqU gz
     simp (disch := omega) only [wk,tupled,↓reduceIte,reduceEqDiff,reduceEq,reduceAdd,reduceCtorEq,E1,E3,E5,E7,E8,E9,E10,gl,gz,hz,ga,l10,o10,t10,d3,d10,List.append_nil,Nat.zero_add]
     refine ⟨id,rfl, ?_,fun i hi => ?_,by omega⟩
     . rw [set_neU (by omega)]; exact gw
     . rw [set_neU (by omega)]; exact gold i hi
   have hnd : nmF n0 n1 n2 d <= 60 := by unfold nmF; split <;> (try split) <;> omega
   have hrc : rc d <= 1 + 60 * d := by
     have : ∀ d,rc d <= 1 + 60 * d := by
       intro d
       induction d with
       | zero => rw [hs.rc0]; omega
       | succ d ih =>
         have : nmF n0 n1 n2 d <= 60 := by unfold nmF; split <;> (try split) <;> omega
         rw [hs.rcS]; omega
     exact this d
   have nf : ([.int .i64 (n0 : Nat),.int .i64 (n1 : Nat),.int .i64 (n2 : Nat)] : List AV)[d]? = some (.int .i64 ((nmF n0 n1 n2 d : Nat) : Int)) := by
     rcases d with _ | _ | _ | d
     . rfl
     . rfl
     . rfl
     . omega
   obtain ⟨nd,hnd0⟩ : ∃ nd,nd = nmF n0 n1 n2 d := ⟨_,rfl⟩
   rw [<- hnd0] at nf hnd
   simp (disch := omega) only [wk,tupled,↓reduceIte,reduceEqDiff,reduceEq,reduceAdd,reduceCtorEq,E1,E3,E5,E8,E9,E10]
   refine loop_ind (fun (i : Nat) E df H => i <= nd /\ E 1 = .ptr H0.length 0 /\ E 3 = .ptr (H0.length + 1) 0 /\ E 5 = .ptr (H0.length + 2) 0 /\ E 7 = .msl 1 id 0 4096 /\ E 8 = .int .i64 ((b d : Nat) : Int) /\ E 9 = .int .i64 ((rc d + i : Nat) : Int) /\ E 10 = .int .i64 ((d : Nat) : Int) /\ E 12 = .int .i64 ((i : Nat) : Int) /\ df = [] ∧
       (∃ v,E 11 = v /\ Own H 2 v (pairsF (rc d) i).length (encs prA (pairsF (rc d) i)) /\ ∀ a b c,v ≠ .sl a b c .e) /\ KT Hd H)
     (fun i => nd - i) 0 (by decide) (.inl rfl) ⟨by omega,by simp only [en,↓reduceIte,reduceEqDiff,E1],by simp only [en,↓reduceIte,reduceEqDiff,E3],by simp only [en,↓reduceIte,reduceEqDiff,E5],by simp only [en,↓reduceIte,reduceEqDiff,E7],by simp only [en,↓reduceIte,reduceEqDiff,E8],by simp only [en,↓reduceIte,reduceEqDiff,E9],by simp only [en,↓reduceIte,reduceEqDiff,E10],by simp only [en,↓reduceIte,reduceEqDiff]; rfl,rfl,⟨.sl 0 0 [] .z,by simp only [en,↓reduceIte,reduceEqDiff],.inl ⟨.inl rfl,rfl,rfl⟩,by intro a b c e; cases e⟩,.refl Hd⟩ ?_
   intro i E df H1 ih1 hP
   obtain ⟨hi,E1,E3,E5,E7,E8,E9,E10,E12,hdf,⟨v,E11,ho,hv⟩,hk⟩ := hP
   subst hdf
   have gn1 := hk.keep _ _ (by intro s e; cases e) gn
   by_cases hin : i < nd
   case pos =>
     have c1 : (3 * (i : Int) + 3) = ((3 * i + 3 : Nat) : Int) := by omega
     rw [pairsF_len (rc d) i] at ho
     simp (disch := omega) only [wk,tupled,↓reduceIte,reduceEqDiff,reduceEq,reduceAdd,reduceCtorEq,E1,E3,E5,E7,E8,E9,E10,E11,E12,gn1,nf,Nat.zero_add]
     refine runX_app ho (by omega) (by omega) (by omega) (by omega) rfl rfl (fun H' q1 q2 q3 => ?_)
     simp (disch := omega) only [wk,tupled,↓reduceIte,reduceEqDiff,reduceEq,reduceAdd,reduceCtorEq,E9,E12]
     refine ih1 (i + 1) _ _ _ (by omega) ?_
     refine ⟨by omega,by simp only [en,↓reduceIte,reduceEqDiff,E1],by simp only [en,↓reduceIte,reduceEqDiff,E3],by simp only [en,↓reduceIte,reduceEqDiff,E5],by simp only [en,↓reduceIte,reduceEqDiff,E7],by simp only [en,↓reduceIte,reduceEqDiff,E8],by simp only [en,↓reduceIte,reduceEqDiff]; rfl,by simp only [en,↓reduceIte,reduceEqDiff,E10],by simp only [en,↓reduceIte,reduceEqDiff],rfl,⟨_,by simp only [en,↓reduceIte,reduceEqDiff]; rfl, ?_,by intro a b c e; cases e⟩,hk.trans (KT.of ho q2 q3)⟩
     rw [c1] at q1
     rw [pairsF_len,pairsF,encs_append]
     exact q1
   obtain rfl : i = nd := by omega
   simp (disch := omega) only [wk,tupled,↓reduceIte,reduceEqDiff,reduceEq,reduceAdd,reduceCtorEq,E1,E3,E5,E7,E8,E9,E10,E11,E12,gn1,nf,Nat.zero_add]
   have pl := pairsF_len (rc d) i
   have e9 : rc d + i = rc (d + 1) := by rw [hs.rcS,<- hnd0]
   rw [e9] at E9
   by_cases h0 : d = 0
   have hd0 : (d : Int) = 0 := by omega
   rw [pl] at ho
   simp (disch := omega) only [wk,tupled,↓reduceIte,reduceEqDiff,reduceEq,reduceAdd,reduceCtorEq,E11,hd0]
   refine runX_app ho (by omega) (by omega) (by omega) (by omega) rfl rfl (fun H' q1 q2 q3 => ?_)
   have q4 : Own H' 2 (.sl 2 (i + 2) (encs prA (pairsF (rc d) i) ++ [.int .u64 1000,.int .u64 61,.int .u64 1001,.int .u64 62]) (.own H1.length)) (pairsF (rc d) i ++ twoP d).length (encs prA (pairsF (rc d) i ++ twoP d)) := by
     rw [encs_append,List.length_append,pl,twoP,if_pos h0]
     exact q1
   simp (disch := omega) only [wk,tupled,↓reduceIte,reduceEqDiff,reduceEq,reduceAdd,reduceCtorEq]
   refine ret_gen (MidP H0 id (b d) (rc (d + 1)) d (pairsF (rc d) i ++ twoP d) Hd) ⟨by simp only [en,↓reduceIte,reduceEqDiff,E1],by simp only [en,↓reduceIte,reduceEqDiff,E3],by simp only [en,↓reduceIte,reduceEqDiff,E5],by simp only [en,↓reduceIte,reduceEqDiff,E7],by simp only [en,↓reduceIte,reduceEqDiff,E8],by simp only [en,↓reduceIte,reduceEqDiff,E9],by simp only [en,↓reduceIte,reduceEqDiff,E10],by simp only [en,↓reduceIte,reduceEqDiff],by simp only [en,↓reduceIte,reduceEqDiff,E8],⟨_,by simp only [en,↓reduceIte,reduceEqDiff],own_lend q4 (by intro a b c e; cases e)⟩,hk.trans (KT.of ho q2 q3)⟩ ?_
   rotate_left
   have hd0 : ¬ (d : Int) = 0 := by omega
   simp (disch := omega) only [wk,tupled,↓reduceIte,reduceEqDiff,reduceEq,reduceAdd,reduceCtorEq,E11,hd0]
   refine ret_gen (MidP H0 id (b d) (rc (d + 1)) d (pairsF (rc d) i ++ twoP d) Hd) ⟨by simp only [en,↓reduceIte,reduceEqDiff,E1],by simp only [en,↓reduceIte,reduceEqDiff,E3],by simp only [en,↓reduceIte,reduceEqDiff,E5],by simp only [en,↓reduceIte,reduceEqDiff,E7],by simp only [en,↓reduceIte,reduceEqDiff,E8],by simp only [en,↓reduceIte,reduceEqDiff,E9],by simp only [en,↓reduceIte,reduceEqDiff,E10],by simp only [en,↓reduceIte,reduceEqDiff],by simp only [en,↓reduceIte,reduceEqDiff,E8],⟨_,by simp only [en,↓reduceIte,reduceEqDiff,E11],own_lend (by rw [twoP,if_neg h0,List.append_nil]; exact ho) hv⟩,hk⟩ ?_
   all_goals
     clear E1 E3 E5 E7 E8 E9 E10 E11 E12
     intro E H2 hM
     obtain ⟨E1,E3,E5,E7,E8,E9,E10,E13,E14,⟨v2,E11,lv2⟩,hk2⟩ := hM
     have hbd := hs.ble d hd3
     refine loop_ind (fun (j : Nat) E df H => j <= 64 - b d /\ E 1 = .ptr H0.length 0 /\ E 3 = .ptr (H0.length + 1) 0 /\ E 5 = .ptr (H0.length + 2) 0 /\ E 7 = .msl 1 id 0 4096 /\ E 8 = .int .i64 ((b d : Nat) : Int) /\ E 9 = .int .i64 ((rc (d + 1) : Nat) : Int) /\ E 10 = .int .i64 ((d : Nat) : Int) /\ E 11 = v2 /\ E 14 = .int .i64 ((b d + j : Nat) : Int) /\ df = [] ∧
         (∃ v,E 13 = v /\ Own H 1 v (freeF (b d) j).length (encs i64A (freeF (b d) j)) /\ ∀ a b c,v ≠ .sl a b c .e) /\ KT Hd H)
       (fun j => 64 - b d - j) 0 (by decide) (.inl rfl) ⟨by omega,E1,E3,E5,E7,E8,E9,E10,E11,E14,rfl,⟨_,E13,.inl ⟨.inl rfl,rfl,rfl⟩,by intro a b c e; cases e⟩,hk2⟩ ?_
     clear E1 E3 E5 E7 E8 E9 E10 E11 E13 E14
     intro j E df H3 ih2 hP
     obtain ⟨hj,E1,E3,E5,E7,E8,E9,E10,E11,E14,hdf,⟨w,E13,how,hw⟩,hk3⟩ := hP
     subst hdf
     by_cases hjn : j < 64 - b d
     case pos =>
       rw [freeF_len] at how
       simp (disch := omega) only [wk,tupled,↓reduceIte,reduceEqDiff,reduceEq,reduceAdd,reduceCtorEq,E8,E13,E14]
       refine runX_app how (by omega) (by omega) (by omega) (by omega) rfl rfl (fun H' q1 q2 q3 => ?_)
       simp (disch := omega) only [wk,tupled,↓reduceIte,reduceEqDiff,reduceEq,reduceAdd,reduceCtorEq,E14]
       refine ih2 (j + 1) _ _ _ (by omega) ?_
       refine ⟨by omega,by simp only [en,↓reduceIte,reduceEqDiff,E1],by simp only [en,↓reduceIte,reduceEqDiff,E3],by simp only [en,↓reduceIte,reduceEqDiff,E5],by simp only [en,↓reduceIte,reduceEqDiff,E7],by simp only [en,↓reduceIte,reduceEqDiff,E8],by simp only [en,↓reduceIte,reduceEqDiff,E9],by simp only [en,↓reduceIte,reduceEqDiff,E10],by simp only [en,↓reduceIte,reduceEqDiff,E11],by simp only [en,↓reduceIte,reduceEqDiff]; rfl,rfl,⟨.sl 1 (j + 1) (encs i64A (freeF (b d) j) ++ [.int .i64 ((b d + j : Nat) : Int)]) (.own H3.length),by simp only [en,↓reduceIte,reduceEqDiff], ?_,by intro a b c e; cases e⟩,hk3.trans (KT.of how q2 q3)⟩
       rw [freeF_len,freeF,encs_append]
       exact q1
     obtain rfl : j = 64 - b d := by omega
     have lw := own_lend how hw
     have bl := fun H => hs.build d hd v2 w H (by rw [<- hnd0]; exact lv2) lw
     obtain ⟨s,tk,es,hs2,_⟩ := slvR_form 2 putA (bt d).puts
     rw [es] at bl
     have nt : ∀ cs : List AV,∀ s,AObj.cells cs ≠ .tok s := by intro cs s e; cases e
     have gw3 := hk3.keep _ _ (nt _) gw
     have gl3 := hk3.keep _ _ (nt _) gl
     have wne : W d ≠ [] := fun e => by have := hWl d hd3; rw [e] at this; cases this
     have am := apply_m (tk := tk) gw3 wne (by rw [hWl d hd3]; omega) (by have := hs.plen d; omega) hs2
     rw [hWl d hd3] at am
     have wf := hs.words d hd
     have at3 := hs.at_ d hd
     rw [hlay] at at3
     have lV : (apW (W d) (bt d).puts).length = 4096 := by rw [apW_len,hWl d hd3]
     obtain ⟨V,hV⟩ : ∃ V,V = apW (W d) (bt d).puts := ⟨_,rfl⟩
     rw [<- hV] at am lV
     obtain ⟨A,hA⟩ : ∃ A,A = 576 + 16 * d := ⟨_,rfl⟩
     rw [<- hA] at at3
     have hA1 : A <= 608 := by omega
     have l3 : H0.length + 2 < H3.length := (List.getElem?_eq_some_iff.1 gl3).1
     have f1 : ∀ c : AObj,(H3 ++ [c])[H3.length]? = some c := fun c => by simp
     have f5 : ∀ c : AObj,(H3 ++ [c])[H0.length + 2]? = some (.cells L0) := fun c => by rw [List.getElem?_append_left l3]; exact gl3
     have mn : min 16 (4096 - A) = 16 := by omega
     have lD : (encs u64A (dw d)).length = 16 := by rw [lenU,hs.dwl]
     have oD := one_u64A (dw d)
     have tD : List.take 16 (encs u64A (dw d)) = encs u64A (dw d) := List.take_of_length_le (by omega)
     have lVe : (encs u64A V).length = 4096 := by rw [lenU,lV]
     have pw := putW_cells V (dw d) A
     rw [hs.dwl] at pw
     have hAn : ¬ A = 4096 := by omega
     have hus : b (d + 1) <= 64 := hs.ble (d + 1) (by omega)
     rw [hs.bS] at hus
     simp (disch := omega) only [wk,tupled,↓reduceIte,reduceEqDiff,reduceEq,reduceAdd,reduceCtorEq,E1,E3,E5,E7,E8,E9,E10,E11,E13,E14,bl,am,wf,at3,f1,f5,l10,t10,mn,lD,oD,tD,lVe,pw,hAn,Nat.zero_add]
     have fh : ∀ (c c' : AObj) (i : Nat),i < H3.length -> ((H3 ++ [c]).set H3.length c')[i]? = H3[i]? := fun c c' i hi => by
       rw [set_neU (by omega),List.getElem?_append_left hi]
     have gn3 := hk3.keep _ _ (nt _) gn
     have gz3 := hk3.keep _ _ (nt _) gz
     have hle := hk3.len
     refine ih (d + 1) _ _ _ (by omega) ?_
     refine ⟨by omega,by simp only [en,↓reduceIte,reduceEqDiff,E1],by simp only [en,↓reduceIte,reduceEqDiff,E3],by simp only [en,↓reduceIte,reduceEqDiff,E5],by simp only [en,↓reduceIte,reduceEqDiff]; rw [hs.bS]; rfl,by simp only [en,↓reduceIte,reduceEqDiff,E9],by simp only [en,↓reduceIte,reduceEqDiff],rfl,⟨H3.length,by simp only [en,↓reduceIte,reduceEqDiff],by rw [hs.wS,<- hV,<- hA]; exact set_eqU (f1 _),by omega⟩,fun k hk => ?_, ?_,⟨zs, ?_,hz⟩, ?_⟩
     . have hk0 : k < H0.length := hk
       have hx : H0[k]? = some H0[k] := List.getElem?_eq_getElem hk0
       have hy := hk3.keep k H0[k] (fun s e => hH0 k s (by rw [hx,e])) ((gold k hk0).trans hx)
       rw [fh _ _ k (List.getElem?_eq_some_iff.1 hy).1,hy,hx]
     . rw [fh _ _ _ (by omega)]; exact gn3
     . rw [fh _ _ _ (by omega)]; exact gz3
     . rw [fh _ _ _ (by omega)]; exact gl3
 obtain ⟨o,H',h1,id,rfl,h2,h3,h4⟩ := key
 exact ⟨H',id,h1,h2,h3,h4⟩
theorem bhas_px (l : List Int) (n : Int) (rest : List AV) (s : Nat) (tk : Tk) (hs : l ≠ [] -> s = 1) (hr : hfL rest = true) (hl : l.length <= 100000) (H : Heap) :
   pcx (cbL tab) 88 [.sl s l.length (encs i64A l ++ rest) tk,.int .i64 n] H = some (.plain (.bool (decide (n ∈ l)))) := by
 obtain ⟨u1,e1,f1⟩ := lend_sl s l.length (encs i64A l ++ rest) tk
 have hfi : hfL (encs i64A l) = true := hfL_encs (fun _ => rfl) l
 refine pcx_N rfl (pc_wp (fi := c88) rfl ?_ (by simp [c88]) (by decide) ?_)
 . simp only [pcOn,List.map_cons,List.map_nil,hfL,hf_lend_sl,hf_lend_int,hf_lend_bool,hf_lend_str,hfL_append,Bool.and_self,Bool.and_true,Bool.true_and,c88,hfi,hr]
 unfold c88
 rw [List.map_cons,List.map_cons,List.map_nil,e1,lend_int]
 simp (disch := omega) only [wk,tupled,↓reduceIte,reduceEqDiff,reduceEq,reduceAdd,reduceCtorEq]
 refine loop_ind (fun (x : List Int × List Int) E df H => l = x.1 ++ x.2 /\ ¬ n ∈ x.1 /\ E 0 = .sl s l.length (encs i64A l ++ rest) u1 /\ E 1 = .int .i64 n /\ E 5 = .int .i64 (x.1.length : Nat) /\ df = [] /\ H = [])
   (fun x => x.2.length) ([],l) (by decide) (.inl rfl) ⟨rfl,by simp,rfl,rfl,rfl,rfl,rfl⟩ ?_
 intro ⟨pre,suf⟩ E df H ih hP
 obtain ⟨a1,a2,E0,E1,E5,hdf,hH⟩ := hP
 dsimp only at a1 a2 E5
 subst hdf hH
 have hll : l.length = pre.length + suf.length := by rw [a1,List.length_append]
 cases suf with
 | nil =>
   simp only [List.append_nil,List.length_nil,Nat.add_zero] at a1 hll
   have hn : decide (n ∈ l) = false := by rw [a1]; simpa using a2
   simp (disch := omega) only [wk,tupled,↓reduceIte,reduceEqDiff,reduceEq,reduceAdd,reduceCtorEq,E0,E1,E5,hn,purify,unownT,lend,unown,AV.hf]
 | cons x r =>
   simp only [List.length_cons] at hll
   obtain rfl := hs (by rw [a1]; simp)
   have dd : List.drop pre.length (encs i64A l ++ rest) = .int .i64 x :: (encs i64A r ++ rest) := by
     have := drop_pre2 (f := i64A) pre (x :: r) rest
     rw [Nat.mul_one,<- a1] at this
     rw [this]; rfl
   by_cases hx : x = n
   . have hn : decide (n ∈ l) = true := by rw [a1,<- hx]; simp
     simp (disch := omega) only [wk,tupled,↓reduceIte,reduceEqDiff,reduceEq,reduceAdd,reduceCtorEq,E0,E1,E5,dd,hx,hn,purify,unownT,lend,unown,AV.hf]
   . simp (disch := omega) only [wk,tupled,↓reduceIte,reduceEqDiff,reduceEq,reduceAdd,reduceCtorEq,E0,E1,E5,dd,hx]
     exact ih (pre ++ [x],r) _ _ _ (by simp) ⟨by simp [a1],by simp only [List.mem_append,List.mem_singleton,not_or]; exact ⟨a2,fun e => hx e.symm⟩,by simp only [en,↓reduceIte,reduceEqDiff,E0],by simp only [en,↓reduceIte,reduceEqDiff,E1],by simp only [en,↓reduceIte,reduceEqDiff],rfl,rfl⟩
def blkM : List Int -> List Int -> Bool
 | _,[] => true
 | pre,x :: r => if x < 1 ∨ 2047 < x ∨ x ∈ pre then false else blkM (pre ++ [x]) r
theorem blocks_px (l : List Int) (rest : List AV) (s : Nat) (tk : Tk) (hs : l ≠ [] -> s = 1) (hr : hfL rest = true) (hl : l.length <= 100000) (H : Heap) :
   pcx (cbL tab) 51 [.sl s l.length (encs i64A l ++ rest) tk] H = some (.plain (.bool (blkM [] l))) := by
 obtain ⟨u1,e1,f1⟩ := lend_sl s l.length (encs i64A l ++ rest) tk
 have hfi : ∀ l,hfL (encs i64A l) = true := fun l => hfL_encs (fun _ => rfl) l
 refine pcx_N rfl (pc_wp (fi := c51) rfl ?_ (by simp [c51]) (by decide) ?_)
 . simp only [pcOn,List.map_cons,List.map_nil,hfL,hf_lend_sl,hf_lend_int,hf_lend_bool,hf_lend_str,hfL_append,Bool.and_self,Bool.and_true,Bool.true_and,c51,hfi,hr]
 unfold c51
 rw [List.map_cons,List.map_nil,e1]
 simp (disch := omega) only [wk,tupled,↓reduceIte,reduceEqDiff,reduceEq,reduceAdd,reduceCtorEq]
 refine loop_ind (fun (x : List Int × List Int) E df H => l = x.1 ++ x.2 /\ blkM [] l = blkM x.1 x.2 /\ E 0 = .sl s l.length (encs i64A l ++ rest) u1 /\ E 3 = .int .i64 (x.1.length : Nat) /\ df = [] /\ H = [])
   (fun x => x.2.length) ([],l) (by decide) (.inl rfl) ⟨rfl,rfl,rfl,rfl,rfl,rfl⟩ ?_
 intro ⟨pre,suf⟩ E df H ih hP
 obtain ⟨a1,a2,E0,E3,hdf,hH⟩ := hP
 dsimp only at a1 a2 E3
 subst hdf hH
 have hll : l.length = pre.length + suf.length := by rw [a1,List.length_append]
 cases suf with
 | nil =>
   simp only [List.append_nil,List.length_nil,Nat.add_zero] at a1 hll
   rw [blkM] at a2
   simp (disch := omega) only [wk,tupled,↓reduceIte,reduceEqDiff,reduceEq,reduceAdd,reduceCtorEq,E0,E3,a2,purify,unownT,lend,unown,AV.hf]
 | cons x r =>
   simp only [List.length_cons] at hll
   obtain rfl := hs (by rw [a1]; simp)
   have dd : List.drop pre.length (encs i64A l ++ rest) = .int .i64 x :: (encs i64A r ++ rest) := by
     have := drop_pre2 (f := i64A) pre (x :: r) rest
     rw [Nat.mul_one,<- a1] at this
     rw [this]; rfl
   have ec : encs i64A l ++ rest = encs i64A pre ++ (encs i64A (x :: r) ++ rest) := by rw [a1,encs_append,List.append_assoc]
   have hp := fun tk H => bhas_px pre x (encs i64A (x :: r) ++ rest) 1 tk (fun _ => rfl) (by rw [hfL_append,hfi,hr]; rfl) (by omega) H
   rw [<- ec] at hp
   have hlen : pre.length <= (encs i64A l).length + rest.length := by
     have : (encs i64A l).length = l.length := by rw [encs_length (k := 1),Nat.mul_one]
     omega
   rw [blkM] at a2
   by_cases h1 : x < 1
   . rw [if_pos (.inl h1)] at a2
     simp (disch := omega) only [wk,tupled,↓reduceIte,reduceEqDiff,reduceEq,reduceAdd,reduceCtorEq,E0,E3,dd,h1,a2,hlen,purify,unownT,lend,unown,AV.hf]
   by_cases h2 : 2047 < x
   . rw [if_pos (.inr (.inl h2))] at a2
     simp (disch := omega) only [wk,tupled,↓reduceIte,reduceEqDiff,reduceEq,reduceAdd,reduceCtorEq,E0,E3,dd,h1,h2,a2,hlen,purify,unownT,lend,unown,AV.hf]
   have hn0 : 0 ≠ l.length := by omega
   have hpn : ¬ pre.length = l.length := by omega
   by_cases h3 : x ∈ pre
   . have hd : decide (x ∈ pre) = true := decide_eq_true h3
     rw [hd] at hp
     rw [if_pos (.inr (.inr h3))] at a2
     simp (disch := omega) only [wk,tupled,↓reduceIte,reduceEqDiff,reduceEq,reduceAdd,reduceCtorEq,E0,E3,dd,h1,h2,hp,a2,hlen,hpn,and_false,purify,unownT,lend,unown,AV.hf]
   . have hd : decide (x ∈ pre) = false := decide_eq_false h3
     rw [hd] at hp
     rw [if_neg (fun h => by rcases h with h | h | h <;> contradiction)] at a2
     simp (disch := omega) only [wk,tupled,↓reduceIte,reduceEqDiff,reduceEq,reduceAdd,reduceCtorEq,E0,E3,dd,h1,h2,hp,hlen,hpn,and_false]
     refine ih (pre ++ [x],r) _ _ _ (by simp) ?_
     exact ⟨by simp [a1],a2,by simp only [en,↓reduceIte,reduceEqDiff,E0],by simp only [en,↓reduceIte,reduceEqDiff],rfl,rfl⟩
end Go.Proofs.YtogbblcnfcfflaaGreat
namespace Go.Am
open Go
def eqS (a b : AV) : Bool :=
 match a,b with
 | .int k x,.int k' y => decide (k = k') && decide (x = y)
 | .bool x,.bool y => x == y
 | .str x,.str y => decide (x.data.toList = y.data.toList)
 | .sl s 0 [] .z,.sl s' 0 [] .z => Nat.beq s s'
 | _,_ => false
theorem eqS_eq {a b : AV} (h : eqS a b = true) : a = b := by
 unfold eqS at h
 split at h
 . simp only [Bool.and_eq_true,decide_eq_true_eq] at h
   rw [h.1,h.2]
 . rw [eq_of_beq h]
 . rename_i x y
   obtain ⟨⟨x⟩⟩ := x
   obtain ⟨⟨y⟩⟩ := y
   simp only [decide_eq_true_eq] at h
   rw [h]
 . rw [Nat.eq_of_beq_eq_true h]
 . cases h
def eqCs : List AV -> List AV -> Bool
 | [],[] => true
 | a :: r,b :: s => eqS a b && eqCs r s
 | _,_ => false
theorem eqCs_eq : ∀ {a b : List AV},eqCs a b = true -> a = b
 | [],[],_ => rfl
 | a :: r,b :: s,h => by
   simp only [eqCs,Bool.and_eq_true] at h
   rw [eqS_eq h.1,eqCs_eq h.2]
 | [],_ :: _,h => by cases h
 | _ :: _,[],h => by cases h
def eqT (a b : Tk) : Bool :=
 match a,b with
 | .ro,.ro => true
 | .z,.z => true
 | .e,.e => true
 | _,_ => false
def eqA (a b : AV) : Bool :=
 match a,b with
 | .sl s n cs tk,.sl s' n' ds tk' => Nat.beq s s' && (Nat.beq n n' && (eqT tk tk' && eqCs cs ds))
 | .agg cs,.agg ds => eqCs cs ds
 | a,b => eqS a b
theorem eqT_eq {a b : Tk} (h : eqT a b = true) : a = b := by
 cases a <;> cases b <;> first | rfl | cases h
theorem eqA_eq {a b : AV} (h : eqA a b = true) : a = b := by
 unfold eqA at h
 split at h
 . simp only [Bool.and_eq_true] at h
   rw [Nat.eq_of_beq_eq_true h.1,Nat.eq_of_beq_eq_true h.2.1,eqT_eq h.2.2.1,eqCs_eq h.2.2.2]
 . rw [eqCs_eq h]
 . exact eqS_eq h
def eqAs : List AV -> List AV -> Bool
 | [],[] => true
 | a :: r,b :: s => eqA a b && eqAs r s
 | _,_ => false
theorem eqAs_eq : ∀ {a b : List AV},eqAs a b = true -> a = b
 | [],[],_ => rfl
 | a :: r,b :: s,h => by
   simp only [eqAs,Bool.and_eq_true] at h
   rw [eqA_eq h.1,eqAs_eq h.2]
 | [],_ :: _,h => by cases h
 | _ :: _,[],h => by cases h
theorem unown_unown (x : AV) : unown (unown x) = unown x := by
 cases x with
 | sl s n cs tk => cases tk <;> rfl
 | _ => rfl
theorem lend_lend (x : AV) : lend (lend x) = lend x := by
 cases x with
 | agg cs =>
   show AV.agg ((cs.map unown).map unown) = AV.agg (cs.map unown)
   rw [List.map_map]
   congr 1
   exact List.map_congr_left (fun y _ => unown_unown y)
 | sl s n cs tk => cases tk <;> rfl
 | _ => rfl
theorem map_lend_lend (l : List AV) : (l.map lend).map lend = l.map lend := by
 rw [List.map_map]
 exact List.map_congr_left (fun y _ => lend_lend y)
def reads (o : Option AFun) : Bool :=
 match o with
 | some fi => fi.con.isNone && (Nat.beq fi.mode 1 || (Nat.beq fi.mode 3 || Nat.beq fi.mode 5))
 | none => false
theorem pcA_lend {tab : FuncId -> Option AFun} {cb : CB} {f : FuncId} {args : List AV} (h : reads (tab f) = true) : pcA tab cb f (args.map lend) = pcA tab cb f args := by
 unfold pcA
 cases hf : tab f with
 | none => rfl
 | some fi =>
   rw [hf] at h
   simp only [reads,Bool.and_eq_true,Bool.or_eq_true,Option.isNone_iff_eq_none] at h
   obtain ⟨hc,hm⟩ := h
   have ho : pcOn fi (args.map lend) = pcOn fi args := by
     unfold pcOn
     rcases hm with hm | hm | hm
     . rw [Nat.eq_of_beq_eq_true hm]; simp only [map_lend_lend]
     . rw [Nat.eq_of_beq_eq_true hm]; simp only [map_lend_lend]
     . rw [Nat.eq_of_beq_eq_true hm]; simp only [map_lend_lend]
   simp only [hc,ho,map_lend_lend]
theorem pc_lend1 {tab : FuncId -> Option AFun} {f : FuncId} {args : List AV} {r : PR} (hr : reads (tab f) = true) (h : (cbL tab).pc f (args.map lend) = some r) : (cbL tab).pc f args = some r := by
 obtain ⟨n,hn⟩ := cbL_pc.1 h
 cases n with
 | zero => cases hn
 | succ n =>
   refine cbL_pc.2 ⟨n + 1, ?_⟩
   have hn : pcA tab (cbs tab n) f (args.map lend) = some r := hn
   rw [pcA_lend hr] at hn
   exact hn
structure Fact where
 f : FuncId
 args : List AV
 res : PR
def knownF : List Fact -> FuncId -> List AV -> Option PR
 | [],_,_ => none
 | x :: r,f,args => if Nat.beq x.f f && eqAs x.args (args.map lend) then some x.res else knownF r f args
def Facts (tab : FuncId -> Option AFun) (l : List Fact) : Prop := ∀ x ∈ l,reads (tab x.f) = true /\ (cbL tab).pc x.f x.args = some x.res
theorem knownF_ok {tab : FuncId -> Option AFun} : ∀ {l : List Fact},Facts tab l -> ∀ f args r,knownF l f args = some r -> (cbL tab).pc f args = some r
 | [],_,_,_,_,h => by cases h
 | x :: l,hx,f,args,r,h => by
   rw [knownF] at h
   split at h
   . rename_i hc
     rw [Bool.and_eq_true] at hc
     cases h
     obtain ⟨h1,h2⟩ := hx x (List.mem_cons_self ..)
     have hf := Nat.eq_of_beq_eq_true hc.1
     rw [hf,eqAs_eq hc.2] at h2
     rw [hf] at h1
     exact pc_lend1 h1 h2
   . exact knownF_ok (fun y hy => hx y (List.mem_cons_of_mem _ hy)) f args r h
theorem fact_run {tab : FuncId -> Option AFun} {l : List Fact} (hl : Facts tab l) (n : Nat) {f : FuncId} {args : List AV} {r : PR} (h : (cbsK tab (knownF l) n).pc f args = some r) : (cbL tab).pc f args = some r := pc_run (knownF_ok hl) n h
theorem Facts.nil (tab : FuncId -> Option AFun) : Facts tab [] := fun _ h => by cases h
theorem Facts.cons {tab : FuncId -> Option AFun} {x : Fact} {l : List Fact} (h : reads (tab x.f) = true) (k : (cbL tab).pc x.f x.args = some x.res) (hl : Facts tab l) : Facts tab (x :: l) := by
 intro y hy
 rcases List.mem_cons.1 hy with rfl | hy
 . exact ⟨h,k⟩
 . exact hl y hy
end Go.Am
namespace Go.Proofs.YtogbblcnfcfflaaGreat
open Go Go.Am Go.Rec Go.Ino
def readR (w : List Int) : List Ext × Int := if (ofM (readE w)).isSome = true /\ wordsE (readE w) = w then (readE w,0) else ([],2)
def readV (x : List Ext × Int) : AV := .tup [slvR 3 extA x.1,.int .i64 x.2]
theorem ceq_u : ∀ (a b : List Int),a.length = b.length -> cellsEq (List.replicate a.length 0) (encs u64A a) (encs u64A b) = some (decide (a = b))
 | [],[],_ => rfl
 | [],_ :: _,h => by simp at h
 | _ :: _,[],h => by simp at h
 | x :: a,y :: b,h => by
   have ih := ceq_u a b (by simpa using h)
   rw [List.length_cons,List.replicate_succ]
   show (match cellEq 0 (.int .u64 x) (.int .u64 y) with | some true => cellsEq (List.replicate a.length 0) (encs u64A a) (encs u64A b) | some false => some false | none => none) = _
   by_cases hxy : x = y
   . have h1 : (x == y) = true := by simp [hxy]
     simp only [cellEq,if_true,h1,ih]
     simp [hxy]
   . have h1 : (x == y) = false := by simp [hxy]
     simp only [cellEq,if_true,h1]
     simp [hxy]
theorem ceq10 {a b : List Int} (ha : a.length = 10) (hb : b.length = 10) : cellsEq [0,0,0,0,0,0,0,0,0,0] (encs u64A a) (encs u64A b) = some (decide (a = b)) := by
 have := ceq_u a b (by omega)
 rw [ha] at this
 exact this
theorem readE_cons (w : Int) (r : List Int) : readE (w :: r) = if w = 0 then readE r else extW w :: readE r := by
 unfold readE
 by_cases h : w = 0
 . simp [h]
 . simp [h]
theorem readE_append (a b : List Int) : readE (a ++ b) = readE a ++ readE b := by
 unfold readE
 rw [List.filter_append,List.map_append]
theorem readE_len (a : List Int) : (readE a).length <= a.length := by
 unfold readE
 rw [List.length_map]
 exact List.length_filter_le _ _
theorem lend_arr (w : List Int) : lend (arrV w) = arrV w := by
 show AV.agg ((encs u64A w).map unown) = AV.agg (encs u64A w)
 rw [encs_mapU,List.map_map]
 congr 1
theorem hf_arr (w : List Int) : (arrV w).hf = true := by simp [arrV,AV.hf,hf_u64A]
theorem getU1 (pre : List Int) (d : Int) (r : List Int) : (encs u64A (pre ++ d :: r))[pre.length]? = some (.int .u64 d) := by
 rw [encs_append,List.getElem?_append_right (by rw [lenU]; exact Nat.le_refl _),lenU,Nat.sub_self]; rfl
theorem purify_read {H : Heap} {v : AV} {l : List Ext} (h : Own H 3 v l.length (encs extA l)) (hne : ∀ s n c,v ≠ .sl s n c .e) : purify (some (.ret (.tup [v,.int .i64 0]),H)) = some (.plain (readV (l,0))) := by
 rcases h with ⟨hx,h1,h2⟩ | ⟨h1,g,rfl,hg⟩
 . have hl : l = [] := List.length_eq_zero_iff.1 h1
   subst hl
   rcases hx with rfl | rfl
   . rfl
   . exact absurd rfl (hne _ _ _)
 . have hl : l.isEmpty = false := by cases l with
     | nil => exact absurd rfl h1
     | cons _ _ => rfl
   have e : readV (l,0) = .tup [.sl 3 l.length (encs extA l) .ro,.int .i64 0] := by
     unfold readV slvR
     rw [hl]; rfl
   rw [e]
   have h : (unownT (.tup [.sl 3 l.length (encs extA l) (.own g),.int .i64 0])).hf = true := by
     simp [unownT,lend,unown,AV.hf,hfL,hf_extA,Tk.hf]
   show (if (unownT (.tup [.sl 3 l.length (encs extA l) (.own g),.int .i64 0])).hf then some (PR.plain (unownT (.tup [.sl 3 l.length (encs extA l) (.own g),.int .i64 0]))) else none) = _
   rw [if_pos h]; rfl
theorem own_arg {H : Heap} {v : AV} {l : List Ext} (h : Own H 3 v l.length (encs extA l)) : ∃ s tk,v = .sl s l.length (encs extA l ++ []) tk /\ (l ≠ [] -> s = 3) := by
 rcases h with ⟨hx,h1,h2⟩ | ⟨h1,g,rfl,hg⟩
 . have hl : l = [] := List.length_eq_zero_iff.1 h1
   subst hl
   rcases hx with rfl | rfl
   . exact ⟨_,_,rfl,fun h => absurd rfl h⟩
   . exact ⟨_,_,rfl,fun h => absurd rfl h⟩
 . exact ⟨3,_,by rw [List.append_nil],fun _ => rfl⟩
theorem xread_px (w : List Int) (h10 : w.length = 10) (hw : ∀ x ∈ w,0 <= x /\ x < 18446744073709551616) (H : Heap) : pcx (cbL tab) 243 [arrV w] H = some (.plain (readV (readR w))) := by
 refine pcx_N rfl (pc_wp (fi := c243) rfl ?_ (by simp [c243]) (by decide) ?_)
 . simp only [pcOn,List.map_cons,List.map_nil,hfL,hf_lend_sl,hf_lend_int,hf_lend_bool,hf_lend_str,hfL_append,Bool.and_self,Bool.and_true,Bool.true_and,c243,lend_arr,hf_arr]
 unfold c243
 rw [List.map_cons,List.map_nil,lend_arr,arrV,z10]
 have o := one_u64A w
 have lw := lenU w
 have tw := tk10 w h10
 simp (disch := omega) only [wk,tupled,↓reduceIte,reduceEqDiff,reduceEq,reduceAdd,reduceCtorEq,o,flat_arr,lw,h10,tw]
 refine loop_ind (fun (x : List Int × List Int) E df H1 => w = x.1 ++ x.2 /\ H1[0]? = some (.cells (encs u64A w)) /\ E 1 = .ptr 0 0 /\ Own H1 3 (E 4) (readE x.1).length (encs extA (readE x.1)) /\ (∀ s n c,E 4 ≠ .sl s n c .e) /\ E 15 = .agg (encs u64A w) /\ E 16 = .int .i64 (x.1.length : Nat) /\ df = [])
   (fun x => x.2.length) ([],w) (by decide) (.inl rfl) ⟨rfl,rfl,rfl,.inl ⟨.inl rfl,rfl,rfl⟩,(by intro s n c h; cases h),rfl,rfl,rfl⟩ ?_
 intro ⟨pre,suf⟩ E df H1 ih hP
 obtain ⟨a1,h0,E1,ho,hne,E15,E16,hdf⟩ := hP
 dsimp only at a1 ho E16
 subst hdf
 have hl : w.length = pre.length + suf.length := by rw [a1,List.length_append]
 have hrl := readE_len pre
 cases suf with
 | nil =>
   rw [List.append_nil] at a1
   subst a1
   have n1 : (w.length : Int) = 10 := by omega
   obtain ⟨s,tk,E4,hz⟩ := own_arg ho
   have xw := fun H => xwords_px (readE w) s [] tk hz rfl (by omega) H
   have e : xwR (readE w) = if (ofM (readE w)).isSome then (wordsE (readE w),0) else (wordsE [],2) := rfl
   have r : readR w = if (ofM (readE w)).isSome = true /\ wordsE (readE w) = w then (readE w,0) else ([],2) := rfl
   rw [<- E4] at xw
   have n10 : (wordsE []).length = 10 := rfl
   have lz := lenU (wordsE [])
   have dz := dr10 (wordsE []) rfl
   have nx : ∀ A : AObj,(H1 ++ [A])[H1.length]? = some A := fun A => by simp
   have stx : ∀ A B : AObj,(H1 ++ [A]).set H1.length B = H1 ++ [B] := fun A B => by simp
   have s10 : 0 < H1.length := (List.getElem?_eq_some_iff.1 h0).1
   have h0a : ∀ A : AObj,(H1 ++ [A])[0]? = some (.cells (encs u64A w)) := fun A => by rw [List.getElem?_append_left s10]; exact h0
   have pn : ∀ H : Heap,purify (some (.ret (.tup [.sl 0 0 [] .z,.int .i64 2]),H)) = some (.plain (readV ([],2))) := fun H => rfl
   cases hs : (ofM (readE w)).isSome with
   | false =>
     rw [hs] at e r
     have r' : readR w = ([],2) := by rw [r]; rfl
     have e' : xwR (readE w) = (wordsE [],2) := by rw [e]; rfl
     rw [e'] at xw
     simp only [xwV,arrV] at xw
     simp (disch := omega) only [wk,tupled,↓reduceIte,reduceEqDiff,reduceEq,reduceAdd,reduceCtorEq,E1,E15,E16,n1,xw,n10,lz,dz,nx,stx,flat_arr,one_u64A,List.append_nil,pn,r']
   | true =>
     obtain ⟨hl10,hright⟩ := isSome_right hs
     have wl := wordsE_len hl10
     have lw2 := lenU (wordsE (readE w))
     have dw2 := dr10 _ wl
     have tw2 := tk10 _ wl
     rw [hs] at e r
     have e' : xwR (readE w) = (wordsE (readE w),0) := by rw [e]; rfl
     rw [e'] at xw
     simp only [xwV,arrV] at xw
     have cq := fun xo yo => bv_sneqd (xo := xo) (yo := yo) (ceq10 wl h10)
     by_cases hE : wordsE (readE w) = w
     . have r' : readR w = (readE w,0) := by rw [r,if_pos ⟨rfl,hE⟩]
       have hq : decide (¬ wordsE (readE w) = w) = false := decide_eq_false (fun h => h hE)
       have ok : Own (H1 ++ [AObj.cells (encs u64A (wordsE (readE w)))]) 3 (E 4) (readE w).length (encs extA (readE w)) := by
         refine ho.kept (g := none) ?_ (.inl rfl)
         intro id o h _
         rw [List.getElem?_append_left (List.getElem?_eq_some_iff.1 h).1]
         exact h
       simp (disch := omega) only [wk,tupled,↓reduceIte,reduceEqDiff,reduceEq,reduceAdd,reduceCtorEq,E1,E15,E16,n1,xw,n10,lz,dz,nx,stx,h0a,wl,lw2,dw2,tw2,lw,tw,flat_arr,one_u64A,List.append_nil,cq,hq,r',purify_read ok hne]
     . have r' : readR w = ([],2) := by rw [r,if_neg (fun h => hE h.2)]
       have hq : decide (wordsE (readE w) = w) = false := decide_eq_false hE
       simp (disch := omega) only [wk,tupled,↓reduceIte,reduceEqDiff,reduceEq,reduceAdd,reduceCtorEq,E1,E15,E16,n1,xw,n10,lz,dz,nx,stx,h0a,wl,lw2,dw2,tw2,lw,h10,tw,flat_arr,one_u64A,List.append_nil,cq,hq,pn,r']
 | cons x r =>
   simp only [List.length_cons] at hl
   have n1 : (pre.length : Int) < 10 := by omega
   have g := getU1 pre x r
   rw [<- a1] at g
   have hx := hw x (by rw [a1]; simp)
   by_cases hx0 : x = 0
   . subst hx0
     have e : readE (pre ++ [0]) = readE pre := by rw [readE_append]; simp [readE_cons,readE]
     simp (disch := omega) only [wk,tupled,↓reduceIte,reduceEqDiff,reduceEq,reduceAdd,reduceCtorEq,E1,E15,E16,n1,g,Nat.zero_add]
     refine ih (pre ++ [0],r) _ _ _ (by simp) ?_
     exact ⟨by simp [a1],h0,by simp only [en,↓reduceIte,reduceEqDiff,E1],by simp only [en,↓reduceIte,reduceEqDiff]; rw [e]; exact ho,by simp only [en,↓reduceIte,reduceEqDiff]; exact hne,by simp only [en,↓reduceIte,reduceEqDiff,E15],by simp only [en,↓reduceIte,reduceEqDiff],rfl⟩
   . have e : readE (pre ++ [x]) = readE pre ++ [extW x] := by rw [readE_append,readE_cons,if_neg hx0]; rfl
     have p1 := fun H => f016 x hx.1 hx.2 H
     have p2 := fun H => f1624 x hx.1 hx.2 H
     have p3 := fun H => f4016 x hx.1 hx.2 H
     have v1 : IntKind.i64.wrap (x % 65536) = x % 65536 := wrap_i64 (by omega) (by omega)
     have v2 : IntKind.i64.wrap (x / 65536 % 16777216) = x / 65536 % 16777216 := wrap_i64 (by omega) (by omega)
     have v3 : IntKind.i64.wrap (x / 1099511627776 % 65536) = x / 1099511627776 % 65536 := wrap_i64 (by omega) (by omega)
     simp (disch := omega) only [wk,tupled,↓reduceIte,reduceEqDiff,reduceEq,reduceAdd,reduceCtorEq,E1,E15,E16,n1,g,Nat.zero_add,hx0,p1,p2,p3,v1,v2,v3]
     refine runX_app ho (by omega) (by omega) (by omega) (by omega) rfl rfl (fun H2 q1 q2 q3 => ?_)
     have h02 := q2.cells ho rfl h0 (by intro s h; cases h)
     simp (disch := omega) only [wk,tupled,↓reduceIte,reduceEqDiff,reduceEq,reduceAdd,reduceCtorEq,E1,E15,E16]
     refine ih (pre ++ [x],r) _ _ _ (by simp) ?_
     have ee : encs extA (readE pre) ++ [.int .i64 (x % 65536),.int .i64 (x / 65536 % 16777216),.int .i64 (x / 1099511627776 % 65536)] = encs extA (readE (pre ++ [x])) := by rw [e,encs_append]; rfl
     have el : (readE pre).length + 1 = (readE (pre ++ [x])).length := by rw [e,List.length_append]; rfl
     rw [ee,el] at q1
     refine ⟨by simp [a1],h02,by simp only [en,↓reduceIte,reduceEqDiff,E1], ?_, ?_,by simp only [en,↓reduceIte,reduceEqDiff,E15],by simp only [en,↓reduceIte,reduceEqDiff],rfl⟩
     . simp only [upd_app,updD_some,updD_none,↓reduceIte,Nat.reduceEqDiff,if_true,if_false]
       rw [ee,el]
       exact q1
     . simp only [en,↓reduceIte,reduceEqDiff]
       intro s n c h
       cases h
theorem k0 : (ByteArray.mk (Array.mk [])).toList = [] := (ByteArray.toList_eq _).trans rfl
theorem idxb_px (s : ByteArray) (c : UInt8) (H : Heap) : pcx (cbL tab) 297 [.str s,.int .u8 (c.toNat : Nat)] H = some (.plain (idxV (idxB c s.data.toList))) := by
 refine pcx_N rfl (pc_wp (fi := c297) rfl rfl (by simp [c297]) (by decide) ?_)
 unfold c297
 rw [List.map_cons,List.map_cons,List.map_nil,lend_str,lend_int]
 have e : UInt8.ofNat c.toNat = c := by simp
 cases h : idxB c s.data.toList <;> simp (disch := omega) only [wk,tupled,↓reduceIte,reduceEqDiff,reduceEq,reduceAdd,reduceCtorEq,e,h,idxV,purify,unownT,lend,unown,AV.hf]
theorem index_px (s : ByteArray) (c : UInt8) (H : Heap) : pcx (cbL tab) 289 [.str s,.str (ByteArray.mk (Array.mk [c]))] H = some (.plain (idxV (idxB c s.data.toList))) := by
 refine pcx_N rfl (pc_wp (fi := c289) rfl rfl (by simp [c289]) (by decide) ?_)
 unfold c289
 rw [List.map_cons,List.map_cons,List.map_nil,lend_str,lend_str]
 have p1 := fun H => idxb_px s c H
 have z : (ByteArray.mk (Array.mk [c])).size = 1 := rfl
 have z2 : (ByteArray.mk (Array.mk [c]))[0]? = some c := rfl
 have i1 : ((1 : Nat) : Int) = 1 := rfl
 have i0 : (0 : Int).toNat = 0 := rfl
 cases hs : ((ByteArray.mk (Array.mk [c])).toList == s.toList) with
 | true =>
   have e : s.data.toList = [c] := by
     have := eq_of_beq hs
     rw [ByteArray.toList_eq,ByteArray.toList_eq] at this
     exact this.symm
   have : idxB c s.data.toList = some 0 := by rw [e]; simp [idxB]
   simp (disch := omega) only [wk,tupled,↓reduceIte,reduceEqDiff,reduceEq,reduceAdd,reduceCtorEq,z,z2,i1,i0,p1,this,idxV,purify,unownT,lend,unown,AV.hf,Option.map_some,bv_streq,hs]
   rfl
 | false => cases h : idxB c s.data.toList <;> simp (disch := omega) only [wk,tupled,↓reduceIte,reduceEqDiff,reduceEq,reduceAdd,reduceCtorEq,z,z2,i1,i0,p1,h,idxV,purify,unownT,lend,unown,AV.hf,Option.map_some,bv_streq,hs]
theorem contains_px (s : ByteArray) (c : UInt8) (H : Heap) : pcx (cbL tab) 251 [.str s,.str (ByteArray.mk (Array.mk [c]))] H = some (.plain (.bool (idxB c s.data.toList).isSome)) := by
 refine pcx_N rfl (pc_wp (fi := c251) rfl rfl (by simp [c251]) (by decide) ?_)
 unfold c251
 rw [List.map_cons,List.map_cons,List.map_nil,lend_str,lend_str]
 have p0 : ∀ H,pcx (cbL tab) 278 [.str s,.str (ByteArray.mk (Array.mk [c]))] H = some (.plain (idxV (idxB c s.data.toList))) := by
   intro H
   refine pcx_N rfl (pc_wp (fi := c278) rfl rfl (by simp [c278]) (by decide) ?_)
   unfold c278
   rw [List.map_cons,List.map_cons,List.map_nil,lend_str,lend_str]
   have p1 := fun H => index_px s c H
   cases h : idxB c s.data.toList <;> simp (disch := omega) only [wk,tupled,↓reduceIte,reduceEqDiff,reduceEq,reduceAdd,reduceCtorEq,p1,h,idxV,purify,unownT,lend,unown,AV.hf]
 cases h : idxB c s.data.toList with
 | none =>
   have n1 : ¬ (0 : Int) <= -1 := by decide
   simp (disch := omega) only [wk,tupled,↓reduceIte,reduceEqDiff,reduceEq,reduceAdd,reduceCtorEq,p0,h,idxV,purify,unownT,lend,unown,AV.hf,n1,Option.isSome_none]
 | some j =>
   have n1 : (0 : Int) <= (j : Int) := by omega
   simp (disch := omega) only [wk,tupled,↓reduceIte,reduceEqDiff,reduceEq,reduceAdd,reduceCtorEq,p0,h,idxV,purify,unownT,lend,unown,AV.hf,n1,Option.isSome_some]
theorem flatM_idx (l : List UInt8) : flatM l = !(idxB 0 l).isSome := by
 have h := idxB_none 0 l
 unfold flatM
 cases hi : idxB 0 l with
 | none => rw [h.1 hi]; rfl
 | some j =>
   have : ¬ l.all (fun b => b != 0) = true := fun h2 => by rw [h.2 h2] at hi; cases hi
   rw [Bool.not_eq_true] at this
   rw [this]; rfl
theorem contains0_px (s : ByteArray) (H : Heap) : pcx (cbL tab) 251 [.str s,.str (ByteArray.mk (Array.mk [UInt8.ofNat 0]))] H = some (.plain (.bool (!flatM s.data.toList))) := by
 rw [flatM_idx,Bool.not_not]
 exact contains_px s (UInt8.ofNat 0) H
theorem runG_un {cb : CB} {rd : Option Nat} {n : Nat} {Q : KP} {ks : List Kt} {E : Env} {df : List ADf} {H : Heap} {b : Bool} {d : Option Nat} {op : AOp} {rest : List AOper} : RunG (.tup []) b d op rest cb rd n Q ks E df H = RR cb rd n Q rest ks (updD E d (.tup [])) df H := rfl
def zB (n : Ino) (f d l : Bool) : Bool := decide ((f = true ∨ (n.size = 0 /\ n.map.length = 0)) /\ (d = true ∨ (n.root = 0 /\ n.parent = 0)) /\ (l = true ∨ n.target.toList = []))
def checkI (n : Ino) : Int := if okI n then 0 else 240
def linksOk (n : Ino) : Prop := 0 <= n.links /\ n.links <= 65535
theorem okI_kind {n : Ino} (h : okI n) : 0 <= n.kind /\ n.kind <= 3 := by
 obtain ⟨_,_,h | h | h | h⟩ := h <;> omega
theorem okI_0 {n : Ino} (h : n.kind = 0) : okI n ↔ linksOk n /\ zB n false false false = true /\ n.links = 0 := by
 unfold okI bodyI linksOk zB
 simp only [decide_eq_true_eq,Bool.false_eq_true,false_or,List.length_eq_zero_iff]
 constructor
 . rintro ⟨h1,h2,h3 | h3 | h3 | h3⟩
   . obtain ⟨_,a,b,c,d,e,f⟩ := h3
     exact ⟨⟨h1,h2⟩,⟨⟨b,c⟩,⟨d,e⟩,f⟩,a⟩
   all_goals omega
 . rintro ⟨⟨h1,h2⟩,⟨⟨b,c⟩,⟨d,e⟩,f⟩,a⟩
   exact ⟨h1,h2,.inl ⟨h,a,b,c,d,e,f⟩⟩
theorem okI_1 {n : Ino} (h : n.kind = 1) : okI n ↔ linksOk n /\ zB n true false false = true /\ 0 <= n.size /\ n.size <= 65536 /\ mapOk n.map n.size = true := by
 unfold okI bodyI linksOk zB
 simp only [decide_eq_true_eq,Bool.false_eq_true,false_or,true_or,true_and]
 constructor
 . rintro ⟨h1,h2,h3 | h3 | h3 | h3⟩
   . omega
   . obtain ⟨_,a,b,c,d,e,f⟩ := h3
     exact ⟨⟨h1,h2⟩,⟨⟨a,b⟩,c⟩,d,e,f⟩
   all_goals omega
 . rintro ⟨⟨h1,h2⟩,⟨⟨a,b⟩,c⟩,d,e,f⟩
   exact ⟨h1,h2,.inr (.inl ⟨h,a,b,c,d,e,f⟩)⟩
theorem okI_2 {n : Ino} (h : n.kind = 2) : okI n ↔ linksOk n /\ zB n false true false = true /\ 1 <= n.root /\ n.root <= 2047 /\ 1 <= n.parent /\ n.parent <= 256 := by
 unfold okI bodyI linksOk zB
 simp only [decide_eq_true_eq,Bool.false_eq_true,false_or,true_or,true_and,List.length_eq_zero_iff]
 constructor
 . rintro ⟨h1,h2,h3 | h3 | h3 | h3⟩
   . omega
   . omega
   . obtain ⟨_,a,b,c,d,e,f,g⟩ := h3
     exact ⟨⟨h1,h2⟩,⟨⟨a,b⟩,c⟩,d,e,f,g⟩
   . omega
 . rintro ⟨⟨h1,h2⟩,⟨⟨a,b⟩,c⟩,d,e,f,g⟩
   exact ⟨h1,h2,.inr (.inr (.inl ⟨h,a,b,c,d,e,f,g⟩))⟩
theorem okI_3 {n : Ino} (h : n.kind = 3) : okI n ↔ linksOk n /\ zB n false false true = true /\ 1 <= n.target.size /\ n.target.size <= 112 /\ flatM n.target.data.toList = true := by
 unfold okI bodyI linksOk zB
 simp only [decide_eq_true_eq,Bool.false_eq_true,false_or,true_or,and_true,List.length_eq_zero_iff]
 constructor
 . rintro ⟨h1,h2,h3 | h3 | h3 | h3⟩
   . omega
   . omega
   . omega
   . obtain ⟨_,a,b,c,d,e,f,g⟩ := h3
     exact ⟨⟨h1,h2⟩,⟨⟨a,b⟩,⟨c,d⟩⟩,e,f,g⟩
 . rintro ⟨⟨h1,h2⟩,⟨⟨a,b⟩,⟨c,d⟩⟩,e,f,g⟩
   exact ⟨h1,h2,.inr (.inr (.inr ⟨h,a,b,c,d,e,f,g⟩))⟩
theorem must_t (H : Heap) : pcx (cbL tab) 186 [.bool true] H = some (.plain (.tup [])) := by
 refine pcx_N rfl (pc_wp (fi := c186) rfl rfl (by simp [c186]) (by decide) ?_)
 unfold c186
 have lb : lend (.bool true) = .bool true := rfl
 rw [List.map_cons,List.map_nil,lb]
 simp (disch := omega) only [wk,tupled,↓reduceIte,reduceEqDiff,reduceEq,reduceAdd,reduceCtorEq,purify,unownT,lend,unown,AV.hf,hfL]
theorem must_f (H : Heap) : pcx (cbL tab) 186 [.bool false] H = some (.pan [(.iface 37 (.int .i64 240),false)]) := by
 refine pcx_N rfl (pc_wp (fi := c186) rfl rfl (by simp [c186]) (by decide) ?_)
 unfold c186
 have lb : lend (.bool false) = .bool false := rfl
 rw [List.map_cons,List.map_nil,lb]
 simp (disch := omega) only [wk,tupled,↓reduceIte,reduceEqDiff,reduceEq,reduceAdd,reduceCtorEq,purify,unownT,lend,unown,AV.hf,hfL]
theorem caught_ret (a : Nat) (f : FuncId) (caps : List AV) (H : Heap) : leaveA tab (cbL tab) [.call 184 [.ptr a 0,.fn f caps]] .returning H = some (.returning,H) := by
 rfl
theorem caught_pan (a : Nat) (f : FuncId) (caps : List AV) (H H1 : Heap) (e : Int) (y v : AV) (h : enterA (cbL tab) f caps H = some (.ret v,H1)) (hy : H1[a]? = some (.cells [y])) :
   leaveA tab (cbL tab) [.call 184 [.ptr a 0,.fn f caps]] (.panicking [(.iface 37 (.int .i64 e),false)]) H = some (.returning,H1.set a (.cells [.int .i64 e])) := by
 have ht : tab 184 = some c184 := rfl
 simp [leaveA,ht,bodyD,c184,acodeD,aregionD,hasRecov,acode,aregion,aval,aact,putD,X.ev,fr0,wantedA,binV,eqV,unV,h,hy,AV.flat,allOne,AV.one,resA,settleA,isNili]
theorem clear71 (o : Nat) (x : AV) (H : Heap) (hx : H[o]? = some (.cells [x])) : enterA (cbL tab) 256 [.ptr o 0] H = some (.ret (.tup []),H.set o (.cells [.sl 0 0 [] .z])) := by
 have : ∃ q H',(cbL tab).ic 256 [.ptr o 0] H = some (q,H') /\ q = .ret (.tup []) /\ H' = H.set o (.cells [.sl 0 0 [] .z]) := by
   refine ic_wp (fi := c256) rfl rfl (by simp [c256]) (by decide) ?_
   unfold c256
   simp (disch := omega) only [wk,tupled,↓reduceIte,reduceEqDiff,reduceEq,reduceAdd,reduceCtorEq,hx,List.append_nil]
 obtain ⟨q,H',h,rfl,rfl⟩ := this
 exact enterA_ic rfl (pc_none (fi := c256) rfl rfl) h
def kindsE : List (AV × AV) := [(.int .i64 0,.agg [.fn 230 [],.fn 231 [],.fn 232 [],.fn 233 []]),
 (.int .i64 1,.agg [.fn 234 [],.fn 235 [],.fn 239 [],.fn 242 []]),
 (.int .i64 2,.agg [.fn 245 [],.fn 246 [],.fn 247 [],.fn 248 []]),
 (.int .i64 3,.agg [.fn 249 [],.fn 250 [],.fn 252 [],.fn 254 []])]
theorem kinds_px (H : Heap) : pcx (cbL tab) 188 [] H = some (.fmap kindsE) := by
 refine pcx_N rfl (pc_wp (fi := c188) rfl rfl (by simp [c188]) (by decide) ?_)
 unfold c188 kindsE
 have b10 : ((1 : Int) == 0) = false := rfl
 have b20 : ((2 : Int) == 0) = false := rfl
 have b21 : ((2 : Int) == 1) = false := rfl
 have b30 : ((3 : Int) == 0) = false := rfl
 have b31 : ((3 : Int) == 1) = false := rfl
 have b32 : ((3 : Int) == 2) = false := rfl
 simp (disch := omega) only [wk,tupled,↓reduceIte,reduceEqDiff,reduceEq,reduceAdd,reduceCtorEq,findA,cellEq,b10,b20,b21,b30,b31,b32,purify,hfL,AV.hf]
def bareI (n : Ino) : Ino :=
 if n.kind = 1 then ⟨0,n.links,n.size,n.map,0,0,⟨#[]⟩⟩
 else if n.kind = 2 then ⟨0,n.links,0,[],n.root,n.parent,⟨#[]⟩⟩
 else if n.kind = 3 then ⟨0,n.links,0,[],0,0,n.target⟩
 else ⟨0,0,0,[],0,0,⟨#[]⟩⟩
def nilm' : AV := .sl 0 0 [] .z
theorem MapR.nil : MapR nilm' [] := ⟨0,[],.z,rfl,fun h => absurd rfl h,rfl,rfl⟩
theorem purify_ino {n : Ino} {m : AV} (hm : MapR m n.map) (H : Heap) : purify (some (.ret (inoA n m),H)) = some (.plain (inoA n m)) := by
 have e : unownT (inoA n m) = inoA n m := lend_inoA hm
 show (if (unownT (inoA n m)).hf then some (PR.plain (unownT (inoA n m))) else none) = _
 rw [e,if_pos (hf_inoA hm)]
theorem bare0_px (n : Ino) (m : AV) (hm : MapR m n.map) (H : Heap) : pcx (cbL tab) 230 [inoA n m] H = some (.plain (inoA ⟨0,0,0,[],0,0,⟨#[]⟩⟩ nilm')) := by
 refine pcx_N rfl (pc_wp (fi := c230) rfl ?_ (by simp [c230]) (by decide) ?_)
 . simp only [pcOn,List.map_cons,List.map_nil,hfL,hf_lend_sl,hf_lend_int,hf_lend_bool,hf_lend_str,hfL_append,Bool.and_self,Bool.and_true,Bool.true_and,c230,lend_inoA hm,hf_inoA hm]
 unfold c230
 rw [List.map_cons,List.map_nil,lend_inoA hm]
 have m1 := hm.one.1
 have m2 := hm.one.2
 have p := fun H => purify_ino (n := ⟨0,0,0,[],0,0,⟨#[]⟩⟩) MapR.nil H
 simp only [inoA,nilm'] at p ⊢
 simp (disch := omega) only [wk,tupled,↓reduceIte,reduceEqDiff,reduceEq,reduceAdd,reduceCtorEq,m1,m2,p]
theorem bare1_px (n : Ino) (m : AV) (hm : MapR m n.map) (H : Heap) : pcx (cbL tab) 234 [inoA n m] H = some (.plain (inoA ⟨0,n.links,n.size,n.map,0,0,⟨#[]⟩⟩ m)) := by
 refine pcx_N rfl (pc_wp (fi := c234) rfl ?_ (by simp [c234]) (by decide) ?_)
 . simp only [pcOn,List.map_cons,List.map_nil,hfL,hf_lend_sl,hf_lend_int,hf_lend_bool,hf_lend_str,hfL_append,Bool.and_self,Bool.and_true,Bool.true_and,c234,lend_inoA hm,hf_inoA hm]
 unfold c234
 rw [List.map_cons,List.map_nil,lend_inoA hm]
 have m1 := hm.one.1
 have m2 := hm.one.2
 have p := fun H => purify_ino (n := ⟨0,n.links,n.size,n.map,0,0,⟨#[]⟩⟩) hm H
 simp only [inoA] at p ⊢
 simp (disch := omega) only [wk,tupled,↓reduceIte,reduceEqDiff,reduceEq,reduceAdd,reduceCtorEq,m1,m2,p]
theorem bare2_px (n : Ino) (m : AV) (hm : MapR m n.map) (H : Heap) : pcx (cbL tab) 245 [inoA n m] H = some (.plain (inoA ⟨0,n.links,0,[],n.root,n.parent,⟨#[]⟩⟩ nilm')) := by
 refine pcx_N rfl (pc_wp (fi := c245) rfl ?_ (by simp [c245]) (by decide) ?_)
 . simp only [pcOn,List.map_cons,List.map_nil,hfL,hf_lend_sl,hf_lend_int,hf_lend_bool,hf_lend_str,hfL_append,Bool.and_self,Bool.and_true,Bool.true_and,c245,lend_inoA hm,hf_inoA hm]
 unfold c245
 rw [List.map_cons,List.map_nil,lend_inoA hm]
 have m1 := hm.one.1
 have m2 := hm.one.2
 have p := fun H => purify_ino (n := ⟨0,n.links,0,[],n.root,n.parent,⟨#[]⟩⟩) MapR.nil H
 simp only [inoA,nilm'] at p ⊢
 simp (disch := omega) only [wk,tupled,↓reduceIte,reduceEqDiff,reduceEq,reduceAdd,reduceCtorEq,m1,m2,p]
theorem bare3_px (n : Ino) (m : AV) (hm : MapR m n.map) (H : Heap) : pcx (cbL tab) 249 [inoA n m] H = some (.plain (inoA ⟨0,n.links,0,[],0,0,n.target⟩ nilm')) := by
 refine pcx_N rfl (pc_wp (fi := c249) rfl ?_ (by simp [c249]) (by decide) ?_)
 . simp only [pcOn,List.map_cons,List.map_nil,hfL,hf_lend_sl,hf_lend_int,hf_lend_bool,hf_lend_str,hfL_append,Bool.and_self,Bool.and_true,Bool.true_and,c249,lend_inoA hm,hf_inoA hm]
 unfold c249
 rw [List.map_cons,List.map_nil,lend_inoA hm]
 have m1 := hm.one.1
 have m2 := hm.one.2
 have p := fun H => purify_ino (n := ⟨0,n.links,0,[],0,0,n.target⟩) MapR.nil H
 simp only [inoA,nilm'] at p ⊢
 simp (disch := omega) only [wk,tupled,↓reduceIte,reduceEqDiff,reduceEq,reduceAdd,reduceCtorEq,m1,m2,p]
theorem may0_px (n : Ino) (m : AV) (hm : MapR m n.map) (H : Heap) : pcx (cbL tab) 231 [inoA n m] H = some (.plain (.bool true)) := by
 refine pcx_N rfl (pc_wp (fi := c231) rfl ?_ (by simp [c231]) (by decide) ?_)
 . simp only [pcOn,List.map_cons,List.map_nil,hfL,hf_lend_sl,hf_lend_int,hf_lend_bool,hf_lend_str,hfL_append,Bool.and_self,Bool.and_true,Bool.true_and,c231,lend_inoA hm,hf_inoA hm]
 unfold c231
 rw [List.map_cons,List.map_nil,lend_inoA hm]
 have m1 := hm.one.1
 have m2 := hm.one.2
 simp only [inoA]
 simp (disch := omega) only [wk,tupled,↓reduceIte,reduceEqDiff,reduceEq,reduceAdd,reduceCtorEq,m1,m2,purify,unownT,lend,unown,AV.hf]
theorem may2_px (n : Ino) (m : AV) (hm : MapR m n.map) (H : Heap) : pcx (cbL tab) 246 [inoA n m] H = some (.plain (.bool (decide ((1 <= n.root /\ n.root <= 2047) /\ (1 <= n.parent /\ n.parent <= 256))))) := by
 refine pcx_N rfl (pc_wp (fi := c246) rfl ?_ (by simp [c246]) (by decide) ?_)
 . simp only [pcOn,List.map_cons,List.map_nil,hfL,hf_lend_sl,hf_lend_int,hf_lend_bool,hf_lend_str,hfL_append,Bool.and_self,Bool.and_true,Bool.true_and,c246,lend_inoA hm,hf_inoA hm]
 unfold c246
 rw [List.map_cons,List.map_nil,lend_inoA hm]
 have m1 := hm.one.1
 have m2 := hm.one.2
 have p1 := fun H => ini_px n.root 1 2047 H
 have p2 := fun H => ini_px n.parent 1 256 H
 simp only [inoA]
 by_cases c1 : 1 <= n.root /\ n.root <= 2047
 . by_cases c2 : 1 <= n.parent /\ n.parent <= 256
   . simp (disch := omega) only [wk,tupled,↓reduceIte,reduceEqDiff,reduceEq,reduceAdd,reduceCtorEq,m1,m2,p1,p2,c1,c2,purify,unownT,lend,unown,AV.hf]
   . have c2' : decide (1 <= n.parent /\ n.parent <= 256) = false := decide_eq_false c2
     have e : decide ((1 <= n.root /\ n.root <= 2047) /\ (1 <= n.parent /\ n.parent <= 256)) = false := decide_eq_false (fun h => c2 h.2)
     rw [e]
     clear c2
     simp (disch := omega) only [wk,tupled,↓reduceIte,reduceEqDiff,reduceEq,reduceAdd,reduceCtorEq,m1,m2,p1,p2,c1,c2',purify,unownT,lend,unown,AV.hf]
 . have c1' : decide (1 <= n.root /\ n.root <= 2047) = false := decide_eq_false c1
   have e : decide ((1 <= n.root /\ n.root <= 2047) /\ (1 <= n.parent /\ n.parent <= 256)) = false := decide_eq_false (fun h => c1 h.1)
   rw [e]
   clear c1
   simp (disch := omega) only [wk,tupled,↓reduceIte,reduceEqDiff,reduceEq,reduceAdd,reduceCtorEq,m1,m2,p1,p2,c1',purify,unownT,lend,unown,AV.hf]
theorem may3_px (n : Ino) (m : AV) (hm : MapR m n.map) (H : Heap) : pcx (cbL tab) 250 [inoA n m] H = some (.plain (.bool (decide ((1 <= (n.target.size : Int) /\ (n.target.size : Int) <= 112) /\ flatM n.target.data.toList = true)))) := by
 refine pcx_N rfl (pc_wp (fi := c250) rfl ?_ (by simp [c250]) (by decide) ?_)
 . simp only [pcOn,List.map_cons,List.map_nil,hfL,hf_lend_sl,hf_lend_int,hf_lend_bool,hf_lend_str,hfL_append,Bool.and_self,Bool.and_true,Bool.true_and,c250,lend_inoA hm,hf_inoA hm]
 unfold c250
 rw [List.map_cons,List.map_nil,lend_inoA hm]
 have m1 := hm.one.1
 have m2 := hm.one.2
 have p1 := fun H => ini_px n.target.size 1 112 H
 have p2 := fun H => contains0_px n.target H
 simp only [inoA]
 by_cases c1 : 1 <= (n.target.size : Int) /\ (n.target.size : Int) <= 112
 . cases c2 : flatM n.target.data.toList
   . simp (disch := omega) only [wk,tupled,↓reduceIte,reduceEqDiff,reduceEq,reduceAdd,reduceCtorEq,m1,m2,p1,p2,c1,c2,purify,unownT,lend,unown,AV.hf,Bool.false_eq_true,and_false]
   . simp (disch := omega) only [wk,tupled,↓reduceIte,reduceEqDiff,reduceEq,reduceAdd,reduceCtorEq,m1,m2,p1,p2,c1,c2,purify,unownT,lend,unown,AV.hf]
 . have c1' : decide (1 <= (n.target.size : Int) /\ (n.target.size : Int) <= 112) = false := decide_eq_false c1
   have e : decide ((1 <= (n.target.size : Int) /\ (n.target.size : Int) <= 112) /\ flatM n.target.data.toList = true) = false := decide_eq_false (fun h => c1 h.1)
   rw [e]
   clear c1
   simp (disch := omega) only [wk,tupled,↓reduceIte,reduceEqDiff,reduceEq,reduceAdd,reduceCtorEq,m1,m2,p1,p2,c1',purify,unownT,lend,unown,AV.hf]
theorem each_no (m : AV) (H : Heap) : pcx (cbL tab) 238 [m] H = none := pcx_none rfl (pc_none (fi := c238) rfl rfl)
theorem each_ic (l : List Ext) (m : AV) (t : List Int) (b : Bool) (hm : MapR m l) (hn : l.length <= 1000) (hR : ofR l = (t,b)) (hT : Tab t) (H : Heap) :
   (cbL tab).ic 238 [m] H = some (.ret (.fn 275 [.ptr H.length 0]),H ++ [.cells (encs i64A t)]) := by
 have : ∃ o H',(cbL tab).ic 238 [m] H = some (o,H') /\ o = .ret (.fn 275 [.ptr H.length 0]) /\ H' = H ++ [.cells (encs i64A t)] := by
   refine ic_wp (fi := c238) rfl rfl (by simp [c238]) (by decide) ?_
   unfold c238
   rw [z128]
   have p := fun H => xof_px l m hm hn H
   simp only [hR,ofV,tabV] at p
   have tl := lenT t
   have tl2 := hT.len
   have tz := lenT t0
   have tz2 := Tab.t0.len
   have tdz := dr128 t0 Tab.t0
   have one := one_i64A t
   have nx : ∀ A : AObj,(H ++ [A])[H.length]? = some A := fun A => by simp
   have stx : ∀ A B : AObj,(H ++ [A]).set H.length B = H ++ [B] := fun A B => by simp
   simp (disch := omega) only [wk,tupled,↓reduceIte,reduceEqDiff,reduceEq,reduceAdd,reduceCtorEq,p,tl,tl2,tz,tz2,tdz,one,nx,stx,flat_tab,List.append_nil]
 obtain ⟨o,H',h,rfl,rfl⟩ := this
 exact h
theorem leach : (cbL tab).lent 238 = false := rfl
def mayAs : ACode := .region [⟨some 3,.mv (.t 20),none⟩]
def mayBd : ACode := .block 1 (.seq (.region [⟨some 22,.mv (.t 3),none⟩,⟨some 23,.bin .mul .num (.t 22) (.c (.int .i64 512)),none⟩,⟨some 24,.fld 0 (.t 1),none⟩,⟨some 25,.fld 2 (.t 24),none⟩,⟨some 26,.load 1 false (.t 25),none⟩,⟨some 27,.bin .geq .num (.t 23) (.t 26),none⟩])
 (.cond (.t 27) (.seq (.region [⟨none,.store 1 (.t 2) (.c (.bool false)),none⟩]) .ret) .skip))
def mayH (cs : List AV) (r : Bool) (t : List Int) (lo : AObj) : Heap := [.cells cs,.cells [.bool r],.cells (encs i64A t),.defd,lo]
def inoC (n : Ino) (m : AV) : List AV := [.int .i64 n.kind,.int .i64 n.links,.int .i64 n.size,m,.int .i64 n.root,.int .i64 n.parent,.str n.target]
theorem yield_ok {E : Env} {tm : List AV} (ha : Ag 28 tm E) (E1 : E 1 = .ptr 0 0) (E2 : E 2 = .ptr 1 0) (n : Ino) (m : AV) (t : List Int) (i : Nat) (d : Int) (hi : i < 128) (h : 512 * (i : Int) < n.size) :
   (cbL tab).yl 4 [.int .i64 (i : Nat),.int .i64 d] (mayH (inoC n m) false t (.loop 0 .normal tm [20,21] mayAs mayBd)) = some (.ret (.bool true),mayH (inoC n m) false t (.loop 0 .normal tm [20,21] mayAs mayBd)) := by
 have key := yl_wp (tab := tab) (id := 4) (P := fun b H' => b = true /\ H' = mayH (inoC n m) false t (.loop 0 .normal tm [20,21] mayAs mayBd))
   (args := [.int .i64 (i : Nat),.int .i64 d]) (H := mayH (inoC n m) false t (.loop 0 .normal tm [20,21] mayAs mayBd)) (readLoop_of rfl) ha rfl (by decide) (by decide) (by decide) (by decide) (by decide) ?_
 . obtain ⟨b,H',k1,rfl,rfl⟩ := key
   exact k1
 unfold mayAs
 simp (disch := omega) only [wk,tupled,↓reduceIte,reduceEqDiff,reduceEq,reduceAdd,reduceCtorEq,updPs_cons,updPs_nil,List.append_nil]
 refine ⟨rfl,rfl,_,_,_,_,_,readLoop_of rfl, ?_⟩
 unfold mayBd mayH inoC
 have c : ¬ n.size <= (i : Int) * 512 := by omega
 simp (disch := omega) only [wk,tupled,↓reduceIte,reduceEqDiff,reduceEq,reduceAdd,reduceCtorEq,E1,E2,c,List.append_nil]
 refine ⟨rfl,_,_,_,_,_,_,readLoop_of rfl,rfl,rfl⟩
theorem yield_no {E : Env} {tm : List AV} (ha : Ag 28 tm E) (E1 : E 1 = .ptr 0 0) (E2 : E 2 = .ptr 1 0) (n : Ino) (m : AV) (t : List Int) (i : Nat) (d : Int) (hi : i < 128) (h : ¬ 512 * (i : Int) < n.size) :
   (cbL tab).yl 4 [.int .i64 (i : Nat),.int .i64 d] (mayH (inoC n m) false t (.loop 0 .normal tm [20,21] mayAs mayBd)) = some (.ret (.bool false),mayH (inoC n m) false t (.loop 2 .ret tm [20,21] mayAs mayBd)) := by
 have key := yl_wp (tab := tab) (id := 4) (P := fun b H' => b = false /\ H' = mayH (inoC n m) false t (.loop 2 .ret tm [20,21] mayAs mayBd))
   (args := [.int .i64 (i : Nat),.int .i64 d]) (H := mayH (inoC n m) false t (.loop 0 .normal tm [20,21] mayAs mayBd)) (readLoop_of rfl) ha rfl (by decide) (by decide) (by decide) (by decide) (by decide) ?_
 . obtain ⟨b,H',k1,rfl,rfl⟩ := key
   exact k1
 unfold mayAs
 simp (disch := omega) only [wk,tupled,↓reduceIte,reduceEqDiff,reduceEq,reduceAdd,reduceCtorEq,updPs_cons,updPs_nil,List.append_nil]
 refine ⟨rfl,rfl,_,_,_,_,_,readLoop_of rfl, ?_⟩
 unfold mayBd mayH inoC
 have c : n.size <= (i : Int) * 512 := by omega
 simp (disch := omega) only [wk,tupled,↓reduceIte,reduceEqDiff,reduceEq,reduceAdd,reduceCtorEq,E1,E2,c,List.append_nil]
 refine ⟨rfl,_,_,_,_,_,_,readLoop_of rfl,rfl,rfl⟩
theorem each1_ic {E0 : Env} {tm : List AV} (ha : Ag 28 tm E0) (E1 : E0 1 = .ptr 0 0) (E2 : E0 2 = .ptr 1 0) (n : Ino) (m : AV) (t : List Int) (hT : Tab t) :
   (cbL tab).ic 275 [.yld 4,.ptr 2 0] (mayH (inoC n m) false t (.loop 0 .normal tm [20,21] mayAs mayBd)) = some (.ret (.tup []),mayH (inoC n m) false t (if tabOkI t n.size then .loop 0 .normal tm [20,21] mayAs mayBd else .loop 2 .ret tm [20,21] mayAs mayBd)) := by
 have : ∃ o H',(cbL tab).ic 275 [.yld 4,.ptr 2 0] (mayH (inoC n m) false t (.loop 0 .normal tm [20,21] mayAs mayBd)) = some (o,H') /\ o = .ret (.tup []) ∧
     H' = mayH (inoC n m) false t (if tabOkI t n.size then .loop 0 .normal tm [20,21] mayAs mayBd else .loop 2 .ret tm [20,21] mayAs mayBd) := by
   refine ic_wp (fi := c275) rfl rfl (by simp [c275]) (by decide) ?_
   unfold c275
   have tk := tk128 t hT
   have tl := lenT t
   have tl2 := hT.len
   have g2 : (mayH (inoC n m) false t (.loop 0 .normal tm [20,21] mayAs mayBd))[2]? = some (.cells (encs i64A t)) := rfl
   simp (disch := omega) only [wk,tupled,↓reduceIte,reduceEqDiff,reduceEq,reduceAdd,reduceCtorEq,g2,tk,tl,tl2]
   refine loop_ind (fun (j : Nat) E df H => j <= 128 /\ tabOkI t n.size = ((List.range' j (128 - j)).all fun i => t.getD i 0 == 0 || decide (512 * (i : Int) < n.size)) /\ E 0 = .yld 4 /\ E 5 = .agg (encs i64A t) /\ E 6 = .int .i64 (j : Nat) /\ df = [] /\ H = mayH (inoC n m) false t (.loop 0 .normal tm [20,21] mayAs mayBd))
     (fun j => 128 - j) 0 (by decide) (.inl rfl) ⟨Nat.zero_le _,by rw [tabOkI,List.range_eq_range'],rfl,rfl,rfl,rfl,rfl⟩ ?_
   intro j E df H ih hP
   obtain ⟨hj,hb,E0',E5,E6,hdf,hH⟩ := hP
   subst hdf hH
   by_cases hj2 : j = 128
   . subst hj2
     have n1 : ¬ (128 : Int) < 128 := by decide
     have i128 : ((128 : Nat) : Int) = 128 := rfl
     rw [i128] at E6
     have e : tabOkI t n.size = true := by rw [hb]; rfl
     simp (disch := omega) only [wk,tupled,↓reduceIte,reduceEqDiff,reduceEq,reduceAdd,reduceCtorEq,E0',E5,E6,n1,e]
   have n1 : (j : Int) < 128 := by omega
   have g := getI t j (by omega)
   have st : (List.range' j (128 - j)).all (fun i => t.getD i 0 == 0 || decide (512 * (i : Int) < n.size)) = ((t.getD j 0 == 0 || decide (512 * (j : Int) < n.size)) && (List.range' (j + 1) (128 - (j + 1))).all fun i => t.getD i 0 == 0 || decide (512 * (i : Int) < n.size)) := by
     have h1 : 128 - j = (128 - (j + 1)) + 1 := by omega
     rw [h1,List.range'_succ,List.all_cons]
   have hv : 0 <= t.getD j 0 := by
     have hjl : j < t.length := by omega
     rw [List.getD_eq_getElem?_getD,List.getElem?_eq_getElem hjl,Option.getD_some]
     exact (hT.val _ (List.getElem_mem hjl)).1
   by_cases g0 : t.getD j 0 = 0
   . have n2 : ¬ (0 : Int) < 0 := by decide
     simp (disch := omega) only [wk,tupled,↓reduceIte,reduceEqDiff,reduceEq,reduceAdd,reduceCtorEq,E0',E5,E6,n1,g,Nat.zero_add,g0,n2]
     refine ih (j + 1) _ _ _ (by omega) ?_
     refine ⟨by omega, ?_,by simp only [en,↓reduceIte,reduceEqDiff,E0'],by simp only [en,↓reduceIte,reduceEqDiff,E5],by simp only [en,↓reduceIte,reduceEqDiff],rfl,rfl⟩
     rw [hb,st,g0]; simp
   . have n2 : 0 < t.getD j 0 := by omega
     have g0' : (t.getD j 0 == 0) = false := by simpa using g0
     by_cases g1 : 512 * (j : Int) < n.size
     . have y := yield_ok ha E1 E2 n m t j (t.getD j 0) (by omega) g1
       simp (disch := omega) only [wk,tupled,↓reduceIte,reduceEqDiff,reduceEq,reduceAdd,reduceCtorEq,E0',E5,E6,n1,g,Nat.zero_add,n2,y]
       refine ih (j + 1) _ _ _ (by omega) ?_
       refine ⟨by omega, ?_,by simp only [en,↓reduceIte,reduceEqDiff,E0'],by simp only [en,↓reduceIte,reduceEqDiff,E5],by simp only [en,↓reduceIte,reduceEqDiff],rfl,rfl⟩
       rw [hb,st,g0',decide_eq_true g1]; rfl
     . have y := yield_no ha E1 E2 n m t j (t.getD j 0) (by omega) g1
       have e : tabOkI t n.size = false := by rw [hb,st,g0',decide_eq_false g1]; rfl
       simp (disch := omega) only [wk,tupled,↓reduceIte,reduceEqDiff,reduceEq,reduceAdd,reduceCtorEq,E0',E5,E6,n1,g,Nat.zero_add,n2,y,e]
 obtain ⟨o,H',h,rfl,rfl⟩ := this
 exact h
theorem may1_px (n : Ino) (m : AV) (hm : MapR m n.map) (hn : n.map.length <= 1000) (H : Heap) : pcx (cbL tab) 235 [inoA n m] H = some (.plain (.bool (decide (0 <= n.size /\ n.size <= 65536) && mapOk n.map n.size))) := by
 refine pcx_N rfl (pc_wp (fi := c235) rfl ?_ (by simp [c235]) (by decide) ?_)
 . simp only [pcOn,List.map_cons,List.map_nil,hfL,hf_lend_sl,hf_lend_int,hf_lend_bool,hf_lend_str,hfL_append,Bool.and_self,Bool.and_true,Bool.true_and,c235,lend_inoA hm,hf_inoA hm]
 unfold c235
 rw [List.map_cons,List.map_nil,lend_inoA hm]
 have m1 := hm.one.1
 have m2 := hm.one.2
 have p1 := fun H => ini_px n.size 0 65536 H
 have p2 := fun H => xcheck_px n.map m hm hn H
 have hin : inoA n m = .agg (inoC n m) := rfl
 simp only [inoA]
 by_cases c1 : 0 <= n.size /\ n.size <= 65536
 case neg =>
   have c1' : decide (0 <= n.size /\ n.size <= 65536) = false := decide_eq_false c1
   clear c1
   simp (disch := omega) only [wk,tupled,↓reduceIte,reduceEqDiff,reduceEq,reduceAdd,reduceCtorEq,m1,m2,p1,c1',purify,unownT,lend,unown,AV.hf,Bool.false_and]
 have c1' : decide (0 <= n.size /\ n.size <= 65536) = true := decide_eq_true c1
 obtain ⟨t,hT,hR⟩ := ofR_tab n.map
 have ee : errE n.map = if (ofM n.map).isSome then 0 else 2 := rfl
 cases hs : (ofM n.map).isSome with
 | false =>
   rw [hs] at ee
   have ee' : errE n.map = 2 := ee
   have e : mapOk n.map n.size = false := by
     unfold mapOk
     cases ho : ofM n.map with
     | none => rfl
     | some t => rw [ho] at hs; cases hs
   rw [ee'] at p2
   clear c1
   simp (disch := omega) only [wk,tupled,↓reduceIte,reduceEqDiff,reduceEq,reduceAdd,reduceCtorEq,m1,m2,p1,c1',p2,e,purify,unownT,lend,unown,AV.hf,Bool.and_false]
 | true =>
   rw [hs] at ee hR
   have ee' : errE n.map = 0 := ee
   rw [ee'] at p2
   have hof : ofM n.map = some t := by
     unfold ofR at hR
     cases ho : ofM n.map with
     | none => rw [ho] at hR; cases hR
     | some t' => rw [ho] at hR; cases hR; rfl
   have e : mapOk n.map n.size = tabOkI t n.size := by unfold mapOk; rw [hof]
   have q1 := fun H => each_no m H
   have q2 := fun H => each_ic n.map m t true hm hn hR hT H
   clear c1
   simp (disch := omega) only [wk,tupled,↓reduceIte,reduceEqDiff,reduceEq,reduceAdd,reduceCtorEq,m1,m2,p1,c1',p2,q1,q2,runE_none leach]
   refine ret_range (f := 275) (caps := [.ptr 2 0]) (by simp only [en,↓reduceIte,reduceEqDiff,evE_t]) (fun tm ha => ?_)
   have r := each1_ic ha (by simp only [en,↓reduceIte,reduceEqDiff]) (by simp only [en,↓reduceIte,reduceEqDiff]) n m t hT
   cases ht : tabOkI t n.size with
   | true =>
     rw [ht] at r
     refine ⟨_,_,_,_,_,_,_,_,r,readLoop_of rfl,by decide,rfl, ?_⟩
     simp (disch := omega) only [wk,tupled,↓reduceIte,reduceEqDiff,reduceEq,reduceAdd,reduceCtorEq,mayH,e,ht,List.append_nil,List.drop_nil]
     rw [ends_mark rfl]
     simp (disch := omega) only [wk,tupled,↓reduceIte,reduceEqDiff,reduceEq,reduceAdd,reduceCtorEq,purify,unownT,lend,unown,AV.hf,Bool.true_and,Bool.and_true,Bool.and_false]
   | false =>
     rw [ht] at r
     refine ⟨_,_,_,_,_,_,_,_,r,readLoop_of rfl,by decide,rfl, ?_⟩
     simp (disch := omega) only [wk,tupled,↓reduceIte,reduceEqDiff,reduceEq,reduceAdd,reduceCtorEq,mayH,e,ht,List.append_nil,List.drop_nil]
     rw [ends_mark rfl]
     simp (disch := omega) only [wk,tupled,↓reduceIte,reduceEqDiff,reduceEq,reduceAdd,reduceCtorEq,purify,unownT,lend,unown,AV.hf,Bool.true_and,Bool.and_true,Bool.and_false]
def kindA (k : Int) : AV :=
 if k = 1 then .agg [.fn 234 [],.fn 235 [],.fn 239 [],.fn 242 []]
 else if k = 2 then .agg [.fn 245 [],.fn 246 [],.fn 247 [],.fn 248 []]
 else if k = 3 then .agg [.fn 249 [],.fn 250 [],.fn 252 [],.fn 254 []]
 else .agg [.fn 230 [],.fn 231 [],.fn 232 [],.fn 233 []]
theorem kindA_0 : kindA 0 = .agg [.fn 230 [],.fn 231 [],.fn 232 [],.fn 233 []] := rfl
theorem kindA_1 : kindA 1 = .agg [.fn 234 [],.fn 235 [],.fn 239 [],.fn 242 []] := rfl
theorem kindA_2 : kindA 2 = .agg [.fn 245 [],.fn 246 [],.fn 247 [],.fn 248 []] := rfl
theorem kindA_3 : kindA 3 = .agg [.fn 249 [],.fn 250 [],.fn 252 [],.fn 254 []] := rfl
def pan240 : PR := .pan [(.iface 37 (.int .i64 240),false)]
def rightR (n : Ino) : PR := if okI n then .plain (kindA n.kind) else pan240
theorem rightR_ok {n : Ino} (h : okI n) : rightR n = .plain (kindA n.kind) := if_pos h
theorem rightR_no {n : Ino} (h : ¬ okI n) : rightR n = pan240 := if_neg h
theorem find0 : findA 0 (.int .i64 0) kindsE 0 = some (some (0,kindA 0)) := rfl
theorem find1 : findA 0 (.int .i64 1) kindsE 0 = some (some (1,kindA 1)) := rfl
theorem find2 : findA 0 (.int .i64 2) kindsE 0 = some (some (2,kindA 2)) := rfl
theorem find3 : findA 0 (.int .i64 3) kindsE 0 = some (some (3,kindA 3)) := rfl
theorem find_no {k : Int} (h0 : k ≠ 0) (h1 : k ≠ 1) (h2 : k ≠ 2) (h3 : k ≠ 3) : findA 0 (.int .i64 k) kindsE 0 = some none := by
 have b0 : (k == 0) = false := by simp [h0]
 have b1 : (k == 1) = false := by simp [h1]
 have b2 : (k == 2) = false := by simp [h2]
 have b3 : (k == 3) = false := by simp [h3]
 simp [findA,kindsE,cellEq,b0,b1,b2,b3]
theorem ba_empty (s : ByteArray) : (⟨#[]⟩ : ByteArray) = s ↔ s.toList = [] := by
 constructor
 . rintro rfl
   exact k0
 . intro h
   have h1 := ba_eq ⟨#[]⟩ s
   rw [show (⟨#[]⟩ : ByteArray).toList = [] from k0,h] at h1
   simpa using h1.symm
theorem same_0 (n : Ino) (h : n.kind = 0) : sameB ⟨0,0,0,[],0,0,⟨#[]⟩⟩ n = decide (zB n false false false = true /\ n.links = 0) := by
 unfold sameB zB
 simp only [h,decide_eq_true_eq,Bool.false_eq_true,false_or,List.length_eq_zero_iff,decide_eq_decide,ba_empty]
 constructor
 . rintro ⟨_,a,b,c,d,e,f⟩
   exact ⟨⟨⟨b.symm,c.symm⟩,⟨d.symm,e.symm⟩,f⟩,a.symm⟩
 . rintro ⟨⟨⟨b,c⟩,⟨d,e⟩,f⟩,a⟩
   exact ⟨trivial,a.symm,b.symm,c.symm,d.symm,e.symm,f⟩
theorem same_1 (n : Ino) (h : n.kind = 1) : sameB ⟨1,n.links,n.size,n.map,0,0,⟨#[]⟩⟩ n = zB n true false false := by
 unfold sameB zB
 simp only [h,Bool.false_eq_true,false_or,true_or,true_and,decide_eq_decide,ba_empty]
 constructor
 . rintro ⟨d,e,f⟩
   exact ⟨⟨d.symm,e.symm⟩,f⟩
 . rintro ⟨⟨d,e⟩,f⟩
   exact ⟨d.symm,e.symm,f⟩
theorem same_2 (n : Ino) (h : n.kind = 2) : sameB ⟨2,n.links,0,[],n.root,n.parent,⟨#[]⟩⟩ n = zB n false true false := by
 unfold sameB zB
 simp only [h,Bool.false_eq_true,false_or,true_or,true_and,decide_eq_decide,ba_empty,List.length_eq_zero_iff]
 constructor
 . rintro ⟨b,c,f⟩
   exact ⟨⟨b.symm,c.symm⟩,f⟩
 . rintro ⟨⟨b,c⟩,f⟩
   exact ⟨b.symm,c.symm,f⟩
theorem same_3 (n : Ino) (h : n.kind = 3) : sameB ⟨3,n.links,0,[],0,0,n.target⟩ n = zB n false false true := by
 unfold sameB zB
 simp only [h,Bool.false_eq_true,false_or,true_or,true_and,and_true,decide_eq_decide,List.length_eq_zero_iff]
 constructor
 . rintro ⟨b,c,d,e⟩
   exact ⟨⟨b.symm,c.symm⟩,d.symm,e.symm⟩
 . rintro ⟨⟨b,c⟩,d,e⟩
   exact ⟨b.symm,c.symm,d.symm,e.symm⟩
theorem right_px (n : Ino) (m : AV) (hm : MapR m n.map) (hn : n.map.length <= 1000) (H : Heap) : pcx (cbL tab) 257 [inoA n m] H = some (rightR n) := by
 refine pcx_N rfl (pc_wp (fi := c257) rfl ?_ (by simp [c257]) (by decide) ?_)
 . simp only [pcOn,List.map_cons,List.map_nil,hfL,hf_lend_sl,hf_lend_int,hf_lend_bool,hf_lend_str,hfL_append,Bool.and_self,Bool.and_true,Bool.true_and,c257,lend_inoA hm,hf_inoA hm]
 unfold c257
 rw [List.map_cons,List.map_nil,lend_inoA hm]
 have m1 := hm.one.1
 have m2 := hm.one.2
 have mz1 : nilm'.flat = [nilm'] := rfl
 have mz2 : nilm'.one = true := rfl
 have kp := fun H => kinds_px H
 have il := fun H => ini_px n.links 0 65535 H
 have mt := fun H => must_t H
 have mf := fun H => must_f H
 have pp : ∀ H,purify (some (.pan [(.iface 37 (.int .i64 240),false)],H)) = some pan240 := fun H => rfl
 by_cases k0 : n.kind = 0
 . have ok := okI_0 k0
   have fd := find0
   have ka := kindA_0
   have sm := same_0 n k0
   have br := fun H => bare0_px n m hm H
   have my := fun H => may0_px n m hm H
   have sp := fun H => same_px' ⟨0,0,0,[],0,0,⟨#[]⟩⟩ n nilm' m MapR.nil hm (by simp) hn H
   rw [sm] at sp
   simp only [inoA] at br my sp ⊢
   simp only [k0] at br my sp ⊢
   by_cases l1 : 0 <= n.links /\ n.links <= 65535
   case neg =>
     have l1' : decide (0 <= n.links /\ n.links <= 65535) = false := decide_eq_false l1
     have e := rightR_no (n := n) (fun h => l1 (ok.1 h).1)
     clear l1
     simp (disch := omega) only [wk,tupled,↓reduceIte,reduceEqDiff,reduceEq,reduceAdd,reduceCtorEq,m1,m2,k0,kp,List.getElem?_nil,fd,cellEq_ii,ka,il,l1',mf,pp,e]
   have l1' : decide (0 <= n.links /\ n.links <= 65535) = true := decide_eq_true l1
   by_cases hz : zB n false false false = true /\ n.links = 0
   case neg =>
     have e := rightR_no (n := n) (fun h => hz (ok.1 h).2)
     rw [decide_eq_false hz] at sp
     clear l1 hz
     simp (disch := omega) only [wk,tupled,↓reduceIte,reduceEqDiff,reduceEq,reduceAdd,reduceCtorEq,m1,m2,mz1,mz2,k0,kp,List.getElem?_nil,fd,cellEq_ii,ka,il,l1',mt,br,sp,mf,pp,e]
   have e := rightR_ok (n := n) (ok.2 ⟨l1,hz⟩)
   rw [k0] at e
   rw [decide_eq_true hz] at sp
   clear l1 hz
   simp (disch := omega) only [wk,tupled,↓reduceIte,reduceEqDiff,reduceEq,reduceAdd,reduceCtorEq,m1,m2,mz1,mz2,k0,kp,List.getElem?_nil,fd,cellEq_ii,ka,il,l1',mt,br,sp,my,e,purify,unownT,lend,unown,AV.hf,hfL]
 by_cases k1 : n.kind = 1
 . have ok := okI_1 k1
   have fd := find1
   have ka := kindA_1
   have sm := same_1 n k1
   have br := fun H => bare1_px n m hm H
   have my := fun H => may1_px n m hm hn H
   have sp := fun H => same_px' ⟨1,n.links,n.size,n.map,0,0,⟨#[]⟩⟩ n m m hm hm (by exact hn) hn H
   rw [sm] at sp
   simp only [inoA] at br my sp ⊢
   simp only [k1] at br my sp ⊢
   by_cases l1 : 0 <= n.links /\ n.links <= 65535
   case neg =>
     have l1' : decide (0 <= n.links /\ n.links <= 65535) = false := decide_eq_false l1
     have e := rightR_no (n := n) (fun h => l1 (ok.1 h).1)
     clear l1
     simp (disch := omega) only [wk,tupled,↓reduceIte,reduceEqDiff,reduceEq,reduceAdd,reduceCtorEq,m1,m2,k1,kp,List.getElem?_nil,fd,cellEq_ii,ka,il,l1',mf,pp,e]
   have l1' : decide (0 <= n.links /\ n.links <= 65535) = true := decide_eq_true l1
   cases hz : zB n true false false with
   | false =>
     have e := rightR_no (n := n) (fun h => by have := (ok.1 h).2.1; rw [hz] at this; cases this)
     rw [hz] at sp
     clear l1
     simp (disch := omega) only [wk,tupled,↓reduceIte,reduceEqDiff,reduceEq,reduceAdd,reduceCtorEq,m1,m2,mz1,mz2,k1,kp,List.getElem?_nil,fd,cellEq_ii,ka,il,l1',mt,br,sp,mf,pp,e]
   | true =>
     rw [hz] at sp
     cases hy : (decide (0 <= n.size /\ n.size <= 65536) && mapOk n.map n.size) with
     | false =>
       have e := rightR_no (n := n) (fun h => by
         obtain ⟨_,_,a,b,c⟩ := ok.1 h
         rw [c,Bool.and_true,decide_eq_true ⟨a,b⟩] at hy
         cases hy)
       rw [hy] at my
       clear l1 hy
       simp (disch := omega) only [wk,tupled,↓reduceIte,reduceEqDiff,reduceEq,reduceAdd,reduceCtorEq,m1,m2,mz1,mz2,k1,kp,List.getElem?_nil,fd,cellEq_ii,ka,il,l1',mt,br,sp,my,mf,pp,e]
     | true =>
       have hy2 : (0 <= n.size /\ n.size <= 65536) /\ mapOk n.map n.size = true := by simpa using hy
       have e := rightR_ok (n := n) (ok.2 ⟨l1,hz,hy2.1.1,hy2.1.2,hy2.2⟩)
       rw [k1] at e
       rw [hy] at my
       clear l1 hy hy2
       simp (disch := omega) only [wk,tupled,↓reduceIte,reduceEqDiff,reduceEq,reduceAdd,reduceCtorEq,m1,m2,mz1,mz2,k1,kp,List.getElem?_nil,fd,cellEq_ii,ka,il,l1',mt,br,sp,my,e,purify,unownT,lend,unown,AV.hf,hfL]
 by_cases k2 : n.kind = 2
 . have ok := okI_2 k2
   have fd := find2
   have ka := kindA_2
   have sm := same_2 n k2
   have br := fun H => bare2_px n m hm H
   have my := fun H => may2_px n m hm H
   have sp := fun H => same_px' ⟨2,n.links,0,[],n.root,n.parent,⟨#[]⟩⟩ n nilm' m MapR.nil hm (by simp) hn H
   rw [sm] at sp
   simp only [inoA] at br my sp ⊢
   simp only [k2] at br my sp ⊢
   by_cases l1 : 0 <= n.links /\ n.links <= 65535
   case neg =>
     have l1' : decide (0 <= n.links /\ n.links <= 65535) = false := decide_eq_false l1
     have e := rightR_no (n := n) (fun h => l1 (ok.1 h).1)
     clear l1
     simp (disch := omega) only [wk,tupled,↓reduceIte,reduceEqDiff,reduceEq,reduceAdd,reduceCtorEq,m1,m2,k2,kp,List.getElem?_nil,fd,cellEq_ii,ka,il,l1',mf,pp,e]
   have l1' : decide (0 <= n.links /\ n.links <= 65535) = true := decide_eq_true l1
   cases hz : zB n false true false with
   | false =>
     have e := rightR_no (n := n) (fun h => by have := (ok.1 h).2.1; rw [hz] at this; cases this)
     rw [hz] at sp
     clear l1
     simp (disch := omega) only [wk,tupled,↓reduceIte,reduceEqDiff,reduceEq,reduceAdd,reduceCtorEq,m1,m2,mz1,mz2,k2,kp,List.getElem?_nil,fd,cellEq_ii,ka,il,l1',mt,br,sp,mf,pp,e]
   | true =>
     rw [hz] at sp
     by_cases hy : (1 <= n.root /\ n.root <= 2047) /\ (1 <= n.parent /\ n.parent <= 256)
     case neg =>
       have e := rightR_no (n := n) (fun h => hy (by obtain ⟨_,_,a,b,c,d⟩ := ok.1 h; exact ⟨⟨a,b⟩,⟨c,d⟩⟩))
       rw [decide_eq_false hy] at my
       clear l1 hy
       simp (disch := omega) only [wk,tupled,↓reduceIte,reduceEqDiff,reduceEq,reduceAdd,reduceCtorEq,m1,m2,mz1,mz2,k2,kp,List.getElem?_nil,fd,cellEq_ii,ka,il,l1',mt,br,sp,my,mf,pp,e]
     have e := rightR_ok (n := n) (ok.2 ⟨l1,hz,hy.1.1,hy.1.2,hy.2.1,hy.2.2⟩)
     rw [k2] at e
     rw [decide_eq_true hy] at my
     clear l1 hy
     simp (disch := omega) only [wk,tupled,↓reduceIte,reduceEqDiff,reduceEq,reduceAdd,reduceCtorEq,m1,m2,mz1,mz2,k2,kp,List.getElem?_nil,fd,cellEq_ii,ka,il,l1',mt,br,sp,my,e,purify,unownT,lend,unown,AV.hf,hfL]
 by_cases k3 : n.kind = 3
 . have ok := okI_3 k3
   have fd := find3
   have ka := kindA_3
   have sm := same_3 n k3
   have br := fun H => bare3_px n m hm H
   have my := fun H => may3_px n m hm H
   have sp := fun H => same_px' ⟨3,n.links,0,[],0,0,n.target⟩ n nilm' m MapR.nil hm (by simp) hn H
   rw [sm] at sp
   simp only [inoA] at br my sp ⊢
   simp only [k3] at br my sp ⊢
   by_cases l1 : 0 <= n.links /\ n.links <= 65535
   case neg =>
     have l1' : decide (0 <= n.links /\ n.links <= 65535) = false := decide_eq_false l1
     have e := rightR_no (n := n) (fun h => l1 (ok.1 h).1)
     clear l1
     simp (disch := omega) only [wk,tupled,↓reduceIte,reduceEqDiff,reduceEq,reduceAdd,reduceCtorEq,m1,m2,k3,kp,List.getElem?_nil,fd,cellEq_ii,ka,il,l1',mf,pp,e]
   have l1' : decide (0 <= n.links /\ n.links <= 65535) = true := decide_eq_true l1
   cases hz : zB n false false true with
   | false =>
     have e := rightR_no (n := n) (fun h => by have := (ok.1 h).2.1; rw [hz] at this; cases this)
     rw [hz] at sp
     clear l1
     simp (disch := omega) only [wk,tupled,↓reduceIte,reduceEqDiff,reduceEq,reduceAdd,reduceCtorEq,m1,m2,mz1,mz2,k3,kp,List.getElem?_nil,fd,cellEq_ii,ka,il,l1',mt,br,sp,mf,pp,e]
   | true =>
     rw [hz] at sp
     by_cases hy : (1 <= (n.target.size : Int) /\ (n.target.size : Int) <= 112) /\ flatM n.target.data.toList = true
     case neg =>
       have e := rightR_no (n := n) (fun h => hy (by obtain ⟨_,_,a,b,c⟩ := ok.1 h; exact ⟨⟨by omega,by omega⟩,c⟩))
       rw [decide_eq_false hy] at my
       clear l1 hy
       simp (disch := omega) only [wk,tupled,↓reduceIte,reduceEqDiff,reduceEq,reduceAdd,reduceCtorEq,m1,m2,mz1,mz2,k3,kp,List.getElem?_nil,fd,cellEq_ii,ka,il,l1',mt,br,sp,my,mf,pp,e]
     have e := rightR_ok (n := n) (ok.2 ⟨l1,hz,by have := hy.1.1; omega,by have := hy.1.2; omega,hy.2⟩)
     rw [k3] at e
     rw [decide_eq_true hy] at my
     clear l1 hy
     simp (disch := omega) only [wk,tupled,↓reduceIte,reduceEqDiff,reduceEq,reduceAdd,reduceCtorEq,m1,m2,mz1,mz2,k3,kp,List.getElem?_nil,fd,cellEq_ii,ka,il,l1',mt,br,sp,my,e,purify,unownT,lend,unown,AV.hf,hfL]
 have e := rightR_no (n := n) (fun h => by have := okI_kind h; omega)
 have fd := find_no k0 k1 k2 k3
 simp only [inoA]
 simp (disch := omega) only [wk,tupled,↓reduceIte,reduceEqDiff,reduceEq,reduceAdd,reduceCtorEq,m1,m2,kp,List.getElem?_nil,fd,cellEq_ii,mf,pp,e]
theorem tdrop (q : List UInt8) (b : UInt8) (r : List UInt8) : List.drop (q.length * 1) (encs byA (q ++ b :: r)) = .int .u8 (b.toNat : Nat) :: encs byA r := by
 rw [drop_pre,encs_cons]; rfl
def RowAt (H : Heap) (v : AV) (l : List Int) : Prop := (l = [] /\ v = .sl 0 0 [] .z) ∨ (l ≠ [] /\ ∃ id,v = .rsl 1 id l.length /\ H[id]? = some (.cells (encs u64A l)))
theorem appR_row {H : Heap} {v : AV} {l : List Int} (h : RowAt H v l) (hn : l.length <= 1000) :
   ∃ id H',appR 1 8 v (.sl 1 1 [.int .u64 0] .ro) H = some (.val (.rsl 1 id (l.length + 1)),H') /\ H'[id]? = some (.cells (encs u64A (l ++ [0]))) := by
 rcases h with ⟨rfl,rfl⟩ | ⟨hne,id,rfl,hid⟩
 . refine ⟨H.length,H ++ [.cells [.int .u64 0]], ?_,by simp [encs,u64A]⟩
   simp [appR,Tk.empty,allOne,AV.one]
 . refine ⟨H.length,H.set id .dead ++ [.cells (encs u64A l ++ [.int .u64 0])], ?_, ?_⟩
   . have h1 : (l.length + 1) * 8 <= 70368744177664 := by omega
     have h2 : l.length + 1 <= 70368744177664 := by omega
     simp [appR,allOne,AV.one,hid,lenU,one_u64A,h1,h2]
   . rw [encs_append]
     have : (H.set id .dead).length = H.length := by simp
     rw [List.getElem?_append_right (by omega),this,Nat.sub_self]
     rfl
theorem getE (init : List Int) (last : Int) : (encs u64A (init ++ [last]))[init.length]? = some (.int .u64 last) := by
 rw [encs_append,List.getElem?_append_right (by rw [lenU]; exact Nat.le_refl _),lenU,Nat.sub_self]; rfl
theorem setE (init : List Int) (last v : Int) : List.take init.length (encs u64A (init ++ [last])) ++ [AV.int .u64 v] ++ List.drop (init.length + 1) (encs u64A (init ++ [last])) = encs u64A (init ++ [v]) := by
 rw [encs_append,encs_append,List.take_append_of_le_length (by rw [lenU]; exact Nat.le_refl _),List.take_of_length_le (by rw [lenU]; exact Nat.le_refl _),List.drop_of_length_le (by rw [List.length_append,lenU]; exact Nat.le_refl _),List.append_nil]
 rfl
theorem lay_px (l : List UInt8) (s : Nat) (tk : Tk) (H : Heap) (hn : l.length <= 1000) (hs : s = 1) : pcx (cbL tab) 253 [.sl s l.length (encs byA l) tk] H = some (prRow 1 u64A (layM l)) := by
 subst hs
 obtain ⟨u1,e1,f1⟩ := lend_sl 1 l.length (encs byA l) tk
 refine pcx_N rfl (pc_wp (fi := c253) rfl ?_ (by simp [c253]) (by decide) ?_)
 . simp only [pcOn,List.map_cons,List.map_nil,hfL,hf_lend_sl,hf_lend_int,hf_lend_bool,hf_lend_str,hfL_append,Bool.and_self,Bool.and_true,Bool.true_and,c253,hf_byA]
 unfold c253
 rw [List.map_cons,List.map_nil,e1]
 simp (disch := omega) only [wk,tupled,↓reduceIte,reduceEqDiff,reduceEq,reduceAdd,reduceCtorEq]
 refine loop_ind (fun (x : List UInt8 × List UInt8) E df H => l = x.1 ++ x.2 /\ E 6 = .sl 1 l.length (encs byA l) u1 /\ E 7 = .int .i64 (l.length : Nat) /\ E 8 = .int .i64 (x.1.length : Nat) /\ RowAt H (E 3) (layM x.1) /\ df = [])
   (fun x => x.2.length) ([],l) (by decide) (.inl rfl) ⟨rfl,rfl,rfl,rfl,by rw [layM_nil]; exact .inl ⟨rfl,rfl⟩,rfl⟩ ?_
 intro ⟨pre,suf⟩ E df H ih hP
 obtain ⟨a1,E6,E7,E8,ho,hdf⟩ := hP
 dsimp only at a1 E8 ho
 subst hdf
 have hl : l.length = pre.length + suf.length := by rw [a1,List.length_append]
 cases suf with
 | nil =>
   rw [List.append_nil] at a1
   subst a1
   have hp : ∀ v,RowAt H v (layM l) -> purify (some (.ret v,H)) = some (prRow 1 u64A (layM l)) := by
     intro v hv
     rcases hv with ⟨e,rfl⟩ | ⟨hne,id,rfl,hid⟩
     . rw [e]; rfl
     . have h1 : (layM l).isEmpty = false := by cases h : layM l with
         | nil => exact absurd h hne
         | cons _ _ => rfl
       have h2 : (layM l).length ≠ 0 := fun h => hne (List.length_eq_zero_iff.1 h)
       simp only [purify,hid,prRow,h1,lenU,Nat.mul_one,hf_u64A,Bool.false_eq_true,if_false]
       rw [if_pos ⟨trivial,h2,trivial⟩]
   simp (disch := omega) only [wk,tupled,↓reduceIte,reduceEqDiff,reduceEq,reduceAdd,reduceCtorEq,E6,E7,E8,hp _ ho]
 | cons b r =>
   simp only [List.length_cons] at hl
   obtain ⟨init,last,s1,s2,s3,s4,s5⟩ := layM_snoc pre b
   have d : List.drop pre.length (encs byA l) = .int .u8 (b.toNat : Nat) :: encs byA r := by
     have := tdrop pre b r
     rw [Nat.mul_one,<- a1] at this
     exact this
   have hb := u8_lt b
   have n1 : (pre.length : Int) < (l.length : Int) := by omega
   have cv : IntKind.u64.wrap (b.toNat : Int) = (b.toNat : Int) := wrap_u64 (by omega) (by omega)
   have hm8 : pre.length % 8 < 8 := Nat.mod_lt _ (by decide)
   have emod : (pre.length : Int) % 8 = ((pre.length % 8 : Nat) : Int) := by omega
   have ediv : (pre.length : Int) / 8 = (init.length : Nat) := by rw [s1]; omega
   have pw : (2 : Int) ^ (8 * ((pre.length % 8 : Nat) : Int)).toNat = 256 ^ (pre.length % 8) := by
     have : (8 * ((pre.length % 8 : Nat) : Int)).toNat = 8 * (pre.length % 8) := by omega
     rw [this,Int.pow_mul]
     rfl
   have pw0 : (0 : Int) <= (b.toNat : Int) * 256 ^ (pre.length % 8) := Int.mul_nonneg (by omega) (Int.pow_nonneg (by decide))
   have pl : last + (b.toNat : Int) * 256 ^ (pre.length % 8) < 18446744073709551616 := by
     have h1 : last + (b.toNat : Int) * 256 ^ (pre.length % 8) < 256 ^ (pre.length % 8 + 1) := by
       rw [Int.pow_succ]
       have h3 : (b.toNat : Int) * 256 ^ (pre.length % 8) <= 255 * 256 ^ (pre.length % 8) := Int.mul_le_mul_of_nonneg_right (by omega) (Int.pow_nonneg (by decide))
       omega
     exact Int.lt_of_lt_of_le h1 (pow_le8 (by omega))
   have sh := fun xo yo ek => u64_shl (xo := xo) (yo := yo) (ek := ek) (a := (b.toNat : Int)) (b := 8 * ((pre.length % 8 : Nat) : Int)) (k := .i64) (by omega) (by omega) (by rw [pw]; exact pw0) (by rw [pw]; omega)
   rw [pw] at sh
   have pw2 : (2 : Int) ^ (8 * (pre.length % 8)) = 256 ^ (pre.length % 8) := by rw [Int.pow_mul]; rfl
   have sor := fun xo yo ek => u64_orE (xo := xo) (yo := yo) (ek := ek) (a := last) (m := (b.toNat : Int)) (8 * (pre.length % 8)) s2 (by rw [pw2]; exact s3) (by omega) (by rw [pw2]; exact pl) (by rw [pw2]; exact pw0)
   rw [pw2] at sor
   have li : (init.length : Int) < ((init.length + 1 : Nat) : Int) := by omega
   have i0 : (0 : Int) <= (init.length : Int) := by omega
   by_cases h8 : pre.length % 8 = 0
   . rw [if_pos h8] at s5
     obtain ⟨s5,rfl⟩ := s5
     have h8' : ((pre.length % 8 : Nat) : Int) = 0 := by omega
     obtain ⟨id,H2,ap,hid⟩ := appR_row ho (by rw [layM_len]; omega)
     rw [s5] at ap hid
     have sid : id < H2.length := (List.getElem?_eq_some_iff.1 hid).1
     rw [h8'] at sh
     simp (disch := omega) only [wk,tupled,↓reduceIte,reduceEqDiff,reduceEq,reduceAdd,reduceCtorEq,E6,E7,E8,n1,d,emod,ediv,h8',ap,s5,hid,getE,setE,sor,cv,sh,li,i0,lenU]
     refine ih (pre ++ [b],r) _ _ _ (by simp) ?_
     refine ⟨by simp [a1],by simp only [en,↓reduceIte,reduceEqDiff,E6],by simp only [en,↓reduceIte,reduceEqDiff,E7],by simp only [en,↓reduceIte,reduceEqDiff],.inr ⟨by rw [s4]; simp,id, ?_, ?_⟩,rfl⟩
     . simp only [en,↓reduceIte,reduceEqDiff,s4]
     . rw [s4]; exact List.getElem?_set_self sid
   . rw [if_neg h8] at s5
     have h8' : ¬ ((pre.length % 8 : Nat) : Int) = 0 := by omega
     rcases ho with ⟨e,_⟩ | ⟨hne,id,E3,hid⟩
     . rw [e] at s5; simp at s5
     . have sid : id < H.length := (List.getElem?_eq_some_iff.1 hid).1
       rw [s5] at E3 hid
       rw [List.length_append,List.length_singleton] at E3
       simp (disch := omega) only [wk,tupled,↓reduceIte,reduceEqDiff,reduceEq,reduceAdd,reduceCtorEq,E3,E6,E7,E8,n1,d,emod,ediv,h8',hid,getE,setE,sor,cv,sh,li,i0,lenU]
       refine ih (pre ++ [b],r) _ _ _ (by simp) ?_
       refine ⟨by simp [a1],by simp only [en,↓reduceIte,reduceEqDiff,E6],by simp only [en,↓reduceIte,reduceEqDiff,E7],by simp only [en,↓reduceIte,reduceEqDiff],.inr ⟨by rw [s4]; simp,id, ?_, ?_⟩,rfl⟩
       . simp only [en,↓reduceIte,reduceEqDiff,s4,E3]
       . rw [s4]; exact List.getElem?_set_self sid
theorem wrap_u8 (x : Int) : IntKind.u8.wrap x = x % 256 := by simp [IntKind.wrap,IntKind.signed,IntKind.bits]
def byteOf (w : Int) (k : Nat) : UInt8 := UInt8.ofNat (w / 256 ^ k % 256).toNat
theorem byteOf_toNat (w : Int) (k : Nat) : ((byteOf w k).toNat : Int) = w / 256 ^ k % 256 := by
 have h1 : 0 <= w / 256 ^ k % 256 := Int.emod_nonneg _ (by decide)
 have h2 : w / 256 ^ k % 256 < 256 := Int.emod_lt_of_pos _ (by decide)
 unfold byteOf
 rw [UInt8.toNat_ofNat',Nat.mod_eq_of_lt (by show _ < 256; omega)]
 omega
theorem bytN_step (w : Int) (k : Nat) : bytN w (k + 1) = bytN w k ++ [byteOf w k] := bytN_snoc w k
theorem wdrop (pre : List Int) (w : Int) (r : List Int) (rest : List AV) : List.drop pre.length (encs u64A (pre ++ w :: r) ++ rest) = .int .u64 w :: (encs u64A r ++ rest) := by
 have := drop_pre2 (f := u64A) pre (w :: r) rest
 rw [Nat.mul_one] at this
 rw [this,encs_cons]; rfl
theorem bput_ic (a b k : Nat) (w : Int) (l : List UInt8) (v : AV) (H : Heap) (hab : a ≠ b) (hk : k < 8) (ha : H[a]? = some (.cells [v])) (hb : H[b]? = some (.cells [.int .u64 w]))
   (ho : Own H 1 v l.length (encs byA l)) (hl : l.length <= 1000) :
   pcx (cbL tab) 279 [.int .i64 (k : Nat),.ptr a 0,.ptr b 0] H = none /\ ∃ v' H',(cbL tab).ic 279 [.int .i64 (k : Nat),.ptr a 0,.ptr b 0] H = some (.ret (.tup []),H') /\ H'[a]? = some (.cells [v']) /\ H'[b]? = some (.cells [.int .u64 w]) ∧
     Own H' 1 v' (l ++ [byteOf w k]).length (encs byA (l ++ [byteOf w k])) /\ (∀ s n c,v' ≠ .sl s n c .e) /\ H.length <= H'.length := by
 refine ⟨pcx_none rfl (pc_none (fi := c279) rfl rfl), ?_⟩
 have : ∃ o H',(cbL tab).ic 279 [.int .i64 (k : Nat),.ptr a 0,.ptr b 0] H = some (o,H') /\ (o = .ret (.tup []) /\ ∃ v',H'[a]? = some (.cells [v']) /\ H'[b]? = some (.cells [.int .u64 w]) ∧
     Own H' 1 v' (l ++ [byteOf w k]).length (encs byA (l ++ [byteOf w k])) /\ (∀ s n c,v' ≠ .sl s n c .e) /\ H.length <= H'.length) := by
   refine ic_wp (fi := c279) rfl rfl (by simp [c279]) (by decide) ?_
   unfold c279
   have sh := fun xo yo ek => u64_shr (xo := xo) (yo := yo) (ek := ek) (a := w) (b := 8 * (k : Int)) (k := .i64) (by omega) (by omega)
   have pw : (2 : Int) ^ (8 * (k : Int)).toNat = 256 ^ k := by
     have : (8 * (k : Int)).toNat = 8 * k := by omega
     rw [this,Int.pow_mul]; rfl
   rw [pw] at sh
   have cv : IntKind.u8.wrap (w / 256 ^ k) = ((byteOf w k).toNat : Int) := by rw [wrap_u8,byteOf_toNat]
   simp (disch := omega) only [wk,tupled,↓reduceIte,reduceEqDiff,reduceEq,reduceAdd,reduceCtorEq,ha,hb,sh,cv]
   refine runX_app ho (by omega) (by omega) (by omega) (by omega) rfl rfl (fun H1 q1 q2 q3 => ?_)
   have ha1 := q2.cells ho rfl ha (by intro s h; cases h)
   have hb1 := q2.cells ho rfl hb (by intro s h; cases h)
   have la : a < H1.length := (List.getElem?_eq_some_iff.1 ha1).1
   simp (disch := omega) only [wk,tupled,↓reduceIte,reduceEqDiff,reduceEq,reduceAdd,reduceCtorEq,ha1,List.append_nil]
   refine ⟨_,List.getElem?_set_self la,by rw [List.getElem?_set_ne hab]; exact hb1, ?_,(by intro s n c h; cases h),by rw [List.length_set]; omega⟩
   have e : encs byA l ++ [.int .u8 ((byteOf w k).toNat : Nat)] = encs byA (l ++ [byteOf w k]) := by rw [encs_append]; rfl
   rw [e] at q1 ⊢
   exact q1.set ha1 (by intro s h; cases h)
 obtain ⟨o,H',h1,rfl,v',h2,h3,h4,h5,h6⟩ := this
 exact ⟨v',H',h1,h2,h3,h4,h5,h6⟩
theorem blput : (cbL tab).lent 279 = false := rfl
theorem bytes_pc (l : List Int) (rest : List AV) (s : Nat) (tk : Tk) (hn : l.length <= 100) (hs : s = 1) (hr : hfL rest = true) (hw : ∀ w ∈ l,0 <= w /\ w < 18446744073709551616) (ht : tk.hf = true) :
   (cbL tab).pc 255 [.sl s l.length (encs u64A l ++ rest) tk] = some (prRow 1 byA (bytM l)) := by
 subst hs
 obtain ⟨u1,e1,f1⟩ := lend_sl 1 l.length (encs u64A l ++ rest) tk
 refine pc_wp (fi := c255) rfl ?_ (by simp [c255]) (by decide) ?_
 . simp only [pcOn,List.map_cons,List.map_nil,hfL,hf_lend_sl,hf_lend_int,hf_lend_bool,hf_lend_str,hfL_append,Bool.and_self,Bool.and_true,Bool.true_and,c255,hf_u64A,hr,AV.hf,ht]
 unfold c255
 rw [List.map_cons,List.map_nil,e1]
 simp (disch := omega) only [wk,tupled,↓reduceIte,reduceEqDiff,reduceEq,reduceAdd,reduceCtorEq]
 refine loop_ind (fun (x : List Int × List Int) E df H => l = x.1 ++ x.2 /\ E 8 = .sl 1 l.length (encs u64A l ++ rest) u1 /\ E 9 = .int .i64 (l.length : Nat) /\ E 10 = .int .i64 (x.1.length : Nat) /\ E 3 = .ptr 0 0 /\ (∃ v,H[0]? = some (.cells [v]) /\ Own H 1 v (bytM x.1).length (encs byA (bytM x.1)) /\ (∀ s n c,v ≠ .sl s n c .e)) /\ df = [])
   (fun x => x.2.length) ([],l) (by decide) (.inl rfl) ⟨rfl,rfl,rfl,rfl,rfl,⟨_,rfl,.inl ⟨.inl rfl,rfl,rfl⟩,(by intro s n c h; cases h)⟩,rfl⟩ ?_
 intro ⟨pre,suf⟩ E df H ih hP
 obtain ⟨a1,E8,E9,E10,E3,⟨v,hv,ho,hne⟩,hdf⟩ := hP
 dsimp only at a1 E10 ho
 subst hdf
 have hl : l.length = pre.length + suf.length := by rw [a1,List.length_append]
 cases suf with
 | nil =>
   rw [List.append_nil] at a1
   subst a1
   simp (disch := omega) only [wk,tupled,↓reduceIte,reduceEqDiff,reduceEq,reduceAdd,reduceCtorEq,E3,E8,E9,E10,hv,purify_row (fun _ => rfl) ho (fun _ => hne)]
 | cons w r =>
   simp only [List.length_cons] at hl
   have d := wdrop pre w r rest
   rw [<- a1] at d
   have hww := hw w (by rw [a1]; simp)
   have hbl := bytM_len pre
   have n1 : (pre.length : Int) < (l.length : Int) := by omega
   have hne0 : 0 < H.length := (List.getElem?_eq_some_iff.1 hv).1
   have g1 : ∀ o : AObj,(H ++ [o])[H.length]? = some o := fun o => by simp
   have st : ∀ o q : AObj,(H ++ [o]).set H.length q = H ++ [q] := fun o q => by simp
   simp (disch := omega) only [wk,tupled,↓reduceIte,reduceEqDiff,reduceEq,reduceAdd,reduceCtorEq,E3,E8,E9,E10,d,n1,g1,st]
   refine loop_ind (fun (k : Nat) E df H1 => k <= 8 /\ E 8 = .sl 1 l.length (encs u64A l ++ rest) u1 /\ E 9 = .int .i64 (l.length : Nat) /\ E 10 = .int .i64 (pre.length : Nat) /\ E 3 = .ptr 0 0 /\ E 6 = .fn 279 [.ptr 0 0,.ptr H.length 0] /\ E 15 = .int .i64 (k : Nat) ∧
       (∃ v,H1[0]? = some (.cells [v]) /\ Own H1 1 v (bytM pre ++ bytN w k).length (encs byA (bytM pre ++ bytN w k)) /\ (∀ s n c,v ≠ .sl s n c .e)) /\ H1[H.length]? = some (.cells [.int .u64 w]) /\ df = [])
     (fun k => 8 - k) 0 (by decide) (.inl rfl) ⟨by omega,by simp only [en,↓reduceIte,reduceEqDiff,E8],by simp only [en,↓reduceIte,reduceEqDiff,E9],by simp only [en,↓reduceIte,reduceEqDiff,E10],by simp only [en,↓reduceIte,reduceEqDiff,E3],by simp only [en,↓reduceIte,reduceEqDiff,E3],by simp only [en,↓reduceIte,reduceEqDiff]; rfl,⟨v,by rw [List.getElem?_append_left hne0]; exact hv, ?_,hne⟩,by simp,rfl⟩ ?_
   . rw [bytN,List.append_nil]
     refine ho.kept (g := none) (fun i o h _ => ?_) (.inl rfl)
     rw [List.getElem?_append_left (List.getElem?_eq_some_iff.1 h).1]; exact h
   clear ho hne hv E3 E8 E9 E10
   intro k E df H1 ih2 hP
   obtain ⟨hk,E8,E9,E10,E3,E6,E15,⟨v,hv,ho,hne⟩,hb,hdf⟩ := hP
   subst hdf
   by_cases hk8 : k = 8
   . subst hk8
     have i8 : ((8 : Nat) : Int) = 8 := rfl
     rw [i8] at E15
     simp (disch := omega) only [wk,tupled,↓reduceIte,reduceEqDiff,reduceEq,reduceAdd,reduceCtorEq,E3,E6,E8,E9,E10,E15]
     refine ih (pre ++ [w],r) _ _ _ (by simp) ?_
     have e : bytM (pre ++ [w]) = bytM pre ++ bytN w 8 := by rw [bytM_append,bytM,bytM,List.append_nil]
     refine ⟨by simp [a1],by simp only [en,↓reduceIte,reduceEqDiff,E8],by simp only [en,↓reduceIte,reduceEqDiff,E9],by simp only [en,↓reduceIte,reduceEqDiff],by simp only [en,↓reduceIte,reduceEqDiff,E3],⟨v,hv, ?_,hne⟩,rfl⟩
     dsimp only
     rw [e]
     exact ho
   . have n8 : (k : Int) < 8 := by omega
     have lk : (bytM pre ++ bytN w k).length <= 1000 := by rw [List.length_append,bytN_len,hbl]; omega
     obtain ⟨c1,v',H2,c2,c3,c4,c5,c6,c7⟩ := bput_ic 0 H.length k w (bytM pre ++ bytN w k) v H1 (by omega) (by omega) hv hb ho lk
     simp (disch := omega) only [wk,tupled,↓reduceIte,reduceEqDiff,reduceEq,reduceAdd,reduceCtorEq,E3,E6,E8,E9,E10,E15,n8,c1,runE_none blput,c2]
     refine ih2 (k + 1) _ _ _ (by omega) ?_
     rw [List.append_assoc,<- bytN_step] at c5
     exact ⟨by omega,by simp only [en,↓reduceIte,reduceEqDiff,E8],by simp only [en,↓reduceIte,reduceEqDiff,E9],by simp only [en,↓reduceIte,reduceEqDiff,E10],by simp only [en,↓reduceIte,reduceEqDiff,E3],by simp only [en,↓reduceIte,reduceEqDiff,E6],by simp only [en,↓reduceIte,reduceEqDiff],⟨v',c3,c5,c6⟩,c4,rfl⟩
theorem equal_pc (a b : List Int) (r1 r2 : List AV) (s1 s2 : Nat) (k1 k2 : Tk) (ha : a.length <= 1000) (hb : b.length <= 1000) (z1 : a ≠ [] -> s1 = 1) (z2 : b ≠ [] -> s2 = 1) (h1 : hfL r1 = true) (h2 : hfL r2 = true) (t1 : k1.hf = true) (t2 : k2.hf = true) :
   (cbL tab).pc 190 [.sl s1 a.length (encs u64A a ++ r1) k1,.sl s2 b.length (encs u64A b ++ r2) k2] = some (.plain (.bool (decide (a = b)))) := by
 obtain ⟨u1,e1,f1⟩ := lend_sl s1 a.length (encs u64A a ++ r1) k1
 obtain ⟨u2,e2,f2⟩ := lend_sl s2 b.length (encs u64A b ++ r2) k2
 refine pc_wp (fi := c190) rfl ?_ (by simp [c190]) (by decide) ?_
 . simp only [pcOn,List.map_cons,List.map_nil,hfL,hf_lend_sl,hf_lend_int,hf_lend_bool,hf_lend_str,hfL_append,Bool.and_self,Bool.and_true,Bool.true_and,c190,hf_u64A,h1,h2,AV.hf,t1,t2]
 unfold c190
 rw [List.map_cons,List.map_cons,List.map_nil,e1,e2]
 by_cases hl : (a.length : Int) = (b.length : Int)
 case neg =>
   have : ¬ a = b := fun h => hl (by rw [h])
   simp (disch := omega) only [wk,tupled,↓reduceIte,reduceEqDiff,reduceEq,reduceAdd,reduceCtorEq,hl,this,purify,unownT,lend,unown,AV.hf]
 have hl' : a.length = b.length := by omega
 simp (disch := omega) only [wk,tupled,↓reduceIte,reduceEqDiff,reduceEq,reduceAdd,reduceCtorEq,hl]
 refine loop_ind (fun (x : List Int × List Int × List Int) E df H => a = x.1 ++ x.2.1 /\ b = x.1 ++ x.2.2 /\ E 0 = .sl s1 a.length (encs u64A a ++ r1) u1 /\ E 1 = .sl s2 b.length (encs u64A b ++ r2) u2 /\ E 12 = .int .i64 (b.length : Nat) /\ E 13 = .int .i64 (x.1.length : Nat) /\ df = [] /\ H = [])
   (fun x => x.2.1.length) ([],a,b) (by decide) (.inl rfl) ⟨rfl,rfl,rfl,rfl,rfl,rfl,rfl,rfl⟩ ?_
 intro ⟨pre,sa,sb⟩ E df H ih hP
 obtain ⟨a1,a2,E0,E1,E12,E5,hdf,hH⟩ := hP
 dsimp only at a1 a2 E5
 subst hdf hH
 have la : a.length = pre.length + sa.length := by rw [a1,List.length_append]
 have lb : b.length = pre.length + sb.length := by rw [a2,List.length_append]
 cases sa with
 | nil =>
   cases sb with
   | nil =>
     have : a = b := by rw [a1,a2]
     simp only [List.length_nil,Nat.add_zero] at la lb
     simp (disch := omega) only [wk,tupled,↓reduceIte,reduceEqDiff,reduceEq,reduceAdd,reduceCtorEq,E0,E1,E12,E5,la,lb,this,purify,unownT,lend,unown,AV.hf]
   | cons y r => simp at la lb; omega
 | cons x r =>
   cases sb with
   | nil => simp at la lb; omega
   | cons y q =>
     simp only [List.length_cons] at la lb
     obtain rfl := z1 (by rw [a1]; simp)
     obtain rfl := z2 (by rw [a2]; simp)
     have d1 := wdrop pre x r r1
     have d2 := wdrop pre y q r2
     rw [<- a1] at d1
     rw [<- a2] at d2
     have n1 : (pre.length : Int) < (a.length : Int) := by omega
     have n2 : (pre.length : Int) < (b.length : Int) := by omega
     by_cases hxy : x = y
     . subst hxy
       simp (disch := omega) only [wk,tupled,↓reduceIte,reduceEqDiff,reduceEq,reduceAdd,reduceCtorEq,E0,E1,E12,E5,n1,n2,d1,d2]
       refine ih (pre ++ [x],r,q) _ _ _ (by simp) ?_
       exact ⟨by simp [a1],by simp [a2],by simp only [en,↓reduceIte,reduceEqDiff,E0],by simp only [en,↓reduceIte,reduceEqDiff,E1],by simp only [en,↓reduceIte,reduceEqDiff,E12],by simp only [en,↓reduceIte,reduceEqDiff],rfl,rfl⟩
     . have : ¬ a = b := by rw [a1,a2]; simp [hxy]
       simp (disch := omega) only [wk,tupled,↓reduceIte,reduceEqDiff,reduceEq,reduceAdd,reduceCtorEq,E0,E1,E12,E5,n1,n2,d1,d2,hxy,this,purify,unownT,lend,unown,AV.hf]
theorem equal_v {a b : List Int} {r1 r2 : List AV} {s1 s2 : Nat} {k1 k2 : Tk} {v1 v2 : AV} {H : Heap} (hv1 : lendK H 4 v1 = .sl s1 a.length (encs u64A a ++ r1) k1) (hv2 : lendK H 4 v2 = .sl s2 b.length (encs u64A b ++ r2) k2)
   (ha : a.length <= 1000) (hb : b.length <= 1000) (z1 : a ≠ [] -> s1 = 1) (z2 : b ≠ [] -> s2 = 1) (h1 : hfL r1 = true) (h2 : hfL r2 = true) (t1 : k1.hf = true) (t2 : k2.hf = true) :
   pcx (cbL tab) 190 [v1,v2] H = some (.plain (.bool (decide (a = b)))) :=
 pcx_L rfl (by simp [hv1,hv2]) (equal_pc a b r1 r2 s1 s2 k1 k2 ha hb z1 z2 h1 h2 t1 t2) rfl
theorem scal_byA : ∀ l : List UInt8,(encs byA l).all (·.scal) = true
 | [] => rfl
 | b :: r => by
   rw [encs_cons,List.all_append,scal_byA r]
   rfl
theorem bytes_v {l : List Int} {rest : List AV} {s : Nat} {tk : Tk} {v : AV} {H : Heap} (hv : lendK H 4 v = .sl s l.length (encs u64A l ++ rest) tk) (hn : l.length <= 100) (hs : s = 1) (hr : hfL rest = true) (hw : ∀ w ∈ l,0 <= w /\ w < 18446744073709551616) (ht : tk.hf = true) :
   pcx (cbL tab) 255 [v] H = some (prRow 1 byA (bytM l)) :=
 pcx_Lrow rfl (by simp [hv]) (bytes_pc l rest s tk hn hs hr hw ht) (scal_byA _)
def putF : List Int -> Nat -> List Int -> List Int
 | w,_,[] => w
 | w,j,v :: r => putF (w.set j v) (j + 1) r
theorem putF_app : ∀ (l a b : List Int),l.length <= b.length -> putF (a ++ b) a.length l = a ++ l ++ b.drop l.length
 | [],a,b,_ => by simp [putF]
 | v :: r,a,[],h => by simp at h
 | v :: r,a,x :: b,h => by
   have e : (a ++ x :: b).set a.length v = (a ++ [v]) ++ b := by
     rw [List.set_append_right _ _ (Nat.le_refl _),Nat.sub_self]; simp
   have el : a.length + 1 = (a ++ [v]).length := by simp
   rw [putF,e,el,putF_app r (a ++ [v]) b (by simpa using h)]
   simp
theorem put1_ic (id bx : Nat) (j : Nat) (v : Int) (w : List Int) (H : Heap) (hid : H[id]? = some (.cells (encs u64A w))) (hbx : H[bx]? = some (.cells [.msl 1 id 0 16])) (hw : w.length = 16) (hj : 1 + j < 16) :
   pcx (cbL tab) 277 [.int .i64 (j : Nat),.int .u64 v,.ptr bx 0] H = none /\ (cbL tab).ic 277 [.int .i64 (j : Nat),.int .u64 v,.ptr bx 0] H = some (.ret (.tup []),H.set id (.cells (encs u64A (w.set (1 + j) v)))) := by
 refine ⟨pcx_none rfl (pc_none (fi := c277) rfl rfl), ?_⟩
 have : ∃ o H',(cbL tab).ic 277 [.int .i64 (j : Nat),.int .u64 v,.ptr bx 0] H = some (o,H') /\ o = .ret (.tup []) /\ H' = H.set id (.cells (encs u64A (w.set (1 + j) v))) := by
   refine ic_wp (fi := c277) rfl rfl (by simp [c277]) (by decide) ?_
   unfold c277
   have su := setU w (1 + j) v (by omega)
   have lw := lenU w
   have e1 : (1 : Int) + (j : Int) = ((1 + j : Nat) : Int) := by omega
   have n1 : ((1 + j : Nat) : Int) < ((16 : Nat) : Int) := by omega
   have n0 : (0 : Int) <= ((1 + j : Nat) : Int) := by omega
   simp (disch := omega) only [wk,tupled,↓reduceIte,reduceEqDiff,reduceEq,reduceAdd,reduceCtorEq,hbx,hid,e1,n1,n0,su,lw,hw,Nat.zero_add]
 obtain ⟨o,H',h,rfl,rfl⟩ := this
 exact h
theorem lput1 : (cbL tab).lent 277 = false := rfl
theorem put_ic (id : Nat) (w l : List Int) (rest : List AV) (s : Nat) (tk : Tk) (H : Heap) (hid : H[id]? = some (.cells (encs u64A w))) (hw : w.length = 16) (hl : l.length <= 15) (hz : l ≠ [] -> s = 1) :
   pcx (cbL tab) 241 [.msl 1 id 0 16,.sl s l.length (encs u64A l ++ rest) tk] H = none /\ ∃ H',(cbL tab).ic 241 [.msl 1 id 0 16,.sl s l.length (encs u64A l ++ rest) tk] H = some (.ret (.tup []),H') ∧
     H'[id]? = some (.cells (encs u64A (putF w 1 l))) /\ H.length <= H'.length /\ ∀ k,k ≠ id -> k < H.length -> H'[k]? = H[k]? := by
 refine ⟨pcx_none rfl (pc_none (fi := c241) rfl rfl), ?_⟩
 have : ∃ o H',(cbL tab).ic 241 [.msl 1 id 0 16,.sl s l.length (encs u64A l ++ rest) tk] H = some (o,H') /\ o = .ret (.tup []) /\ H'[id]? = some (.cells (encs u64A (putF w 1 l))) /\ H.length <= H'.length /\ ∀ k,k ≠ id -> k < H.length -> H'[k]? = H[k]? := by
   refine ic_wp (fi := c241) rfl rfl (by simp [c241]) (by decide) ?_
   unfold c241
   have hlt : id < H.length := (List.getElem?_eq_some_iff.1 hid).1
   simp (disch := omega) only [wk,tupled,↓reduceIte,reduceEqDiff,reduceEq,reduceAdd,reduceCtorEq]
   refine loop_ind (fun (x : List Int × List Int × List Int) E df H1 => l = x.1 ++ x.2.1 /\ putF w 1 l = putF x.2.2 (1 + x.1.length) x.2.1 /\ x.2.2.length = 16 /\ E 2 = .ptr H.length 0 /\ E 4 = .fn 277 [.ptr H.length 0] /\ E 8 = .sl s l.length (encs u64A l ++ rest) tk /\ E 9 = .int .i64 (l.length : Nat) /\ E 10 = .int .i64 (x.1.length : Nat) /\ df = [] ∧
       H1[id]? = some (.cells (encs u64A x.2.2)) /\ H1[H.length]? = some (.cells [.msl 1 id 0 16]) /\ H.length <= H1.length /\ ∀ k,k ≠ id -> k < H.length -> H1[k]? = H[k]?)
     (fun x => x.2.1.length) ([],l,w) (by decide) (.inl rfl) ⟨rfl,rfl,hw,rfl,rfl,rfl,rfl,rfl,rfl,by rw [List.getElem?_append_left hlt]; exact hid,by simp,by simp,fun k _ hk => List.getElem?_append_left hk⟩ ?_
   intro ⟨pre,suf,w1⟩ E df H1 ih hP
   obtain ⟨a1,a2,hw1,E2,E4,E8,E9,E10,hdf,h0,h1,hle,hold⟩ := hP
   dsimp only at a1 a2 hw1 E10 h0
   subst hdf
   have hll : l.length = pre.length + suf.length := by rw [a1,List.length_append]
   cases suf with
   | nil =>
     simp only [List.length_nil,Nat.add_zero] at hll
     have e : putF w 1 l = w1 := a2
     simp (disch := omega) only [wk,tupled,↓reduceIte,reduceEqDiff,reduceEq,reduceAdd,reduceCtorEq,E2,E4,E8,E9,E10,hll]
     rw [e]
     exact ⟨h0,hle,hold⟩
   | cons v r =>
     simp only [List.length_cons] at hll
     obtain rfl := hz (by rw [a1]; simp)
     have d := wdrop pre v r rest
     rw [<- a1] at d
     have n1 : (pre.length : Int) < (l.length : Int) := by omega
     obtain ⟨p1,p2⟩ := put1_ic id H.length pre.length v w1 H1 h0 h1 hw1 (by omega)
     simp (disch := omega) only [wk,tupled,↓reduceIte,reduceEqDiff,reduceEq,reduceAdd,reduceCtorEq,E2,E4,E8,E9,E10,n1,d,p1,p2,runE_none lput1]
     refine ih (pre ++ [v],r,w1.set (1 + pre.length) v) _ _ _ (by simp) ?_
     refine ⟨by simp [a1], ?_,by rw [List.length_set]; exact hw1,by simp only [en,↓reduceIte,reduceEqDiff,E2],by simp only [en,↓reduceIte,reduceEqDiff,E4],by simp only [en,↓reduceIte,reduceEqDiff,E8],by simp only [en,↓reduceIte,reduceEqDiff,E9],by simp only [en,↓reduceIte,reduceEqDiff],rfl,List.getElem?_set_self (List.getElem?_eq_some_iff.1 h0).1, ?_,by rw [List.length_set]; exact hle,fun k hk1 hk2 => ?_⟩
     . rw [a2,putF]
       dsimp only
       rw [List.length_append]; rfl
     . rw [List.getElem?_set_ne (by omega)]; exact h1
     . rw [List.getElem?_set_ne (fun e => hk1 e.symm)]; exact hold k hk1 hk2
 obtain ⟨o,H',h,rfl,h2⟩ := this
 exact ⟨H',h,h2⟩
theorem lput : (cbL tab).lent 241 = false := rfl
def LayP (f : FuncId) (n : Ino) (m : AV) (l : List Int) : Prop := ∀ (id : Nat) (w : List Int) (H : Heap),H[id]? = some (.cells (encs u64A w)) -> w.length = 16 →
 pcx (cbL tab) f [inoA n m,.msl 1 id 0 16] H = none /\ ∃ H',(cbL tab).ic f [inoA n m,.msl 1 id 0 16] H = some (.ret (.tup []),H') /\ H'[id]? = some (.cells (encs u64A (putF w 1 l))) /\ H.length <= H'.length /\ ∀ k,k ≠ id -> k < H.length -> H'[k]? = H[k]?
theorem lay0 (n : Ino) (m : AV) (hm : MapR m n.map) : LayP 232 n m [] := by
 intro id w H hid hw
 refine ⟨pcx_none rfl (pc_none (fi := c232) rfl (by simp [pcOn,c232,lend,unown,hfL,AV.hf])), ?_⟩
 have hlt : id < H.length := (List.getElem?_eq_some_iff.1 hid).1
 have : ∃ o H',(cbL tab).ic 232 [inoA n m,.msl 1 id 0 16] H = some (o,H') /\ o = .ret (.tup []) /\ H'[id]? = some (.cells (encs u64A (putF w 1 []))) /\ H.length <= H'.length /\ ∀ k,k ≠ id -> k < H.length -> H'[k]? = H[k]? := by
   refine ic_wp (fi := c232) rfl (by simp [pcOn,c232,lend,unown,hfL,AV.hf]) (by simp [c232]) (by decide) ?_
   unfold c232
   have m1 := hm.one.1
   have m2 := hm.one.2
   simp only [inoA]
   simp (disch := omega) only [wk,tupled,↓reduceIte,reduceEqDiff,reduceEq,reduceAdd,reduceCtorEq,m1,m2]
   exact ⟨by rw [List.getElem?_append_left hlt]; exact hid,by omega,fun k _ hk => List.getElem?_append_left hk⟩
 obtain ⟨o,H',h,rfl,h2⟩ := this
 exact ⟨H',h,h2⟩
theorem lay2 (n : Ino) (m : AV) (hm : MapR m n.map) (h1 : 0 <= n.root) (h2 : n.root < 9223372036854775807) (h3 : 0 <= n.parent) (h4 : n.parent < 9223372036854775807) : LayP 247 n m [0,n.root,n.parent] := by
 intro id w H hid hw
 refine ⟨pcx_none rfl (pc_none (fi := c247) rfl (by simp [pcOn,c247,lend,unown,hfL,AV.hf])), ?_⟩
 have hlt : id < H.length := (List.getElem?_eq_some_iff.1 hid).1
 have : ∃ o H',(cbL tab).ic 247 [inoA n m,.msl 1 id 0 16] H = some (o,H') /\ o = .ret (.tup []) /\ H'[id]? = some (.cells (encs u64A (putF w 1 [0,n.root,n.parent]))) /\ H.length <= H'.length /\ ∀ k,k ≠ id -> k < H.length -> H'[k]? = H[k]? := by
   refine ic_wp (fi := c247) rfl (by simp [pcOn,c247,lend,unown,hfL,AV.hf]) (by simp [c247]) (by decide) ?_
   unfold c247
   have m1 := hm.one.1
   have m2 := hm.one.2
   have v1 : IntKind.u64.wrap n.root = n.root := wrap_u64 (by omega) (by omega)
   have v2 : IntKind.u64.wrap n.parent = n.parent := wrap_u64 (by omega) (by omega)
   obtain ⟨p1,H2,p2,p3,p4,p5⟩ := put_ic id w [0,n.root,n.parent] [] 1 .ro (H ++ [.cells (inoC n m)]) (by rw [List.getElem?_append_left hlt]; exact hid) hw (by simp) (fun _ => rfl)
   have e3 : encs u64A [0,n.root,n.parent] ++ [] = [.int .u64 0,.int .u64 n.root,.int .u64 n.parent] := rfl
   have e4 : ([0,n.root,n.parent] : List Int).length = 3 := rfl
   rw [e3,e4] at p1 p2
   unfold inoC at p1 p2
   simp only [inoA]
   have nx : ∀ A : AObj,(H ++ [A])[H.length]? = some A := fun A => by simp
   simp (disch := omega) only [wk,tupled,↓reduceIte,reduceEqDiff,reduceEq,reduceAdd,reduceCtorEq,m1,m2,nx,v1,v2,p1,p2,runE_none lput]
   refine ⟨p3,by simp at p4; omega,fun k hk1 hk2 => ?_⟩
   rw [p5 k hk1 (by simp; omega),List.getElem?_append_left hk2]
 obtain ⟨o,H',h,rfl,h2⟩ := this
 exact ⟨H',h,h2⟩
theorem app_e2 (x : Int) (l : List Int) (tk : Tk) (H : Heap) (h0 : l ≠ []) (hl : l.length <= 1000) :
   appV 1 8 (.sl 1 1 [.int .u64 x] .e) (.sl 1 l.length (encs u64A l) tk) H = some (.val (.sl 1 (1 + l.length) (encs u64A (x :: l)) (.own H.length)),H ++ [.tok 1]) := by
 have h1 : l.length ≠ 0 := fun h => h0 (List.length_eq_zero_iff.1 h)
 have h2 : (1 + l.length) * 8 <= 70368744177664 := by omega
 have h3 : 1 + l.length <= 70368744177664 := by omega
 have ht : (encs u64A l).take l.length = encs u64A l := List.take_of_length_le (by rw [lenU]; exact Nat.le_refl _)
 have ht' : (encs u64A l).take (l.length * 1) = encs u64A l := by rw [Nat.mul_one]; exact ht
 simp only [appV,ht,ht',lenU,Nat.mul_one,h1,h2,h3,one_u64A,if_true,if_false,true_and,and_true,and_self,Nat.le_refl,List.length_cons,List.length_nil,Nat.zero_add,Nat.zero_lt_one,Nat.one_mul]
 rfl
theorem lay1 (n : Ino) (m : AV) (hm : MapR m n.map) (ho : (ofM n.map).isSome = true) (h1 : 0 <= n.size) (h2 : n.size <= 65536) : LayP 239 n m (n.size :: wordsE n.map) := by
 intro id w H hid hw
 refine ⟨pcx_none rfl (pc_none (fi := c239) rfl (by simp [pcOn,c239,lend,unown,hfL,AV.hf])), ?_⟩
 have hlt : id < H.length := (List.getElem?_eq_some_iff.1 hid).1
 have : ∃ o H',(cbL tab).ic 239 [inoA n m,.msl 1 id 0 16] H = some (o,H') /\ o = .ret (.tup []) /\ H'[id]? = some (.cells (encs u64A (putF w 1 (n.size :: wordsE n.map)))) /\ H.length <= H'.length /\ ∀ k,k ≠ id -> k < H.length -> H'[k]? = H[k]? := by
   refine ic_wp (fi := c239) rfl (by simp [pcOn,c239,lend,unown,hfL,AV.hf]) (by simp [c239]) (by decide) ?_
   unfold c239
   rw [z10]
   have m1 := hm.one.1
   have m2 := hm.one.2
   obtain ⟨s,rest,tk,hme,hz,hr,htk⟩ := hm
   obtain ⟨hl10,hright⟩ := isSome_right ho
   have xw : ∀ H,pcx (cbL tab) 240 [m] H = some (.plain (xwV (xwR n.map))) := fun H => by rw [hme]; exact xwords_px n.map s rest tk hz hr (by omega) H
   have e : xwR n.map = (wordsE n.map,0) := by unfold xwR; rw [ho]; rfl
   rw [e] at xw
   simp only [xwV,arrV] at xw
   have wl := wordsE_len hl10
   have lw := lenU (wordsE n.map)
   have n10 : (wordsE []).length = 10 := rfl
   have lz := lenU (wordsE [])
   have dz := dr10 (wordsE []) rfl
   have ow := one_u64A (wordsE n.map)
   have v1 : IntKind.u64.wrap n.size = n.size := wrap_u64 (by omega) (by omega)
   have hne : wordsE n.map ≠ [] := fun h => by rw [h] at wl; cases wl
   have ro : rowOf (H ++ [AObj.cells (inoC n m),.cells (encs u64A (wordsE n.map))]) (.msl 1 (H.length + 1) 0 10) = .sl 1 (wordsE n.map).length (encs u64A (wordsE n.map)) .ro := by
     rw [rowOf_msl (get_a1 ..) (by rw [lenU,wl]; decide) (by decide),List.drop_zero,List.take_of_length_le (by rw [lenU,wl]; decide),wl]
   have ap := app_e2 n.size (wordsE n.map) .ro (H ++ [AObj.cells (inoC n m),.cells (encs u64A (wordsE n.map))]) hne (by omega)
   obtain ⟨p1,H2,p2,p3,p4,p5⟩ := put_ic id w (n.size :: wordsE n.map) [] 1 (.own (H ++ [AObj.cells (inoC n m),.cells (encs u64A (wordsE n.map))]).length) (H ++ [AObj.cells (inoC n m),.cells (encs u64A (wordsE n.map))] ++ [.tok 1])
     (by rw [List.append_assoc,List.getElem?_append_left hlt]; exact hid) hw (by simp [wl]) (fun _ => rfl)
   have el : (n.size :: wordsE n.map).length = 1 + (wordsE n.map).length := by rw [List.length_cons,Nat.add_comm]
   rw [el,List.append_nil] at p1 p2
   have nx : ∀ A B : AObj,(H ++ [A,B])[H.length]? = some A := fun A B => by simp
   have nx1 : ∀ A : AObj,(H ++ [A])[H.length]? = some A := fun A => by simp
   have w1 : H ++ [AObj.cells (inoC n m),.cells (encs u64A (wordsE []))] = (H ++ [AObj.cells (inoC n m)]) ++ [.cells (encs u64A (wordsE []))] := by simp
   simp only [inoA]
   unfold inoC at ro ap p1 p2
   simp (disch := omega) only [wk,tupled,↓reduceIte,reduceEqDiff,reduceEq,reduceAdd,reduceCtorEq,m1,m2,nx,nx1,get_a1,set_a1,xw,n10,lz,dz,wl,lw,ow,flat_arr,List.append_nil,List.append_assoc,v1]
   rw [ro,ap]
   simp only [encs_cons,List.length_append,List.length_cons,List.length_nil,List.append_assoc,List.cons_append,List.nil_append,Nat.zero_add,Nat.reduceAdd] at p1 p2
   simp (disch := omega) only [wk,tupled,↓reduceIte,reduceEqDiff,reduceEq,reduceAdd,reduceCtorEq,p1,p2,runE_none lput,List.append_assoc]
   refine ⟨p3,by simp at p4; omega,fun k hk1 hk2 => ?_⟩
   rw [p5 k hk1 (by simp; omega),List.append_assoc,List.getElem?_append_left hk2]
 obtain ⟨o,H',h,rfl,h2⟩ := this
 exact ⟨H',h,h2⟩
theorem layM_ne_nil {l : List UInt8} (h : l ≠ []) : layM l ≠ [] := by rw [layM_ne h]; simp
theorem prRow_ne {α : Type} {sz : Nat} {f : α -> List AV} {l : List α} (h : l ≠ []) : prRow sz f l = .fresh sz l.length (encs f l) := by
 unfold prRow
 have : l.isEmpty = false := by cases l with
   | nil => exact absurd rfl h
   | cons _ _ => rfl
 rw [this]; rfl
theorem lay3 (n : Ino) (m : AV) (hm : MapR m n.map) (h1 : 1 <= n.target.size) (h2 : n.target.size <= 112) : LayP 252 n m ((n.target.size : Int) :: layM n.target.data.toList) := by
 intro id w H hid hw
 refine ⟨pcx_none rfl (pc_none (fi := c252) rfl (by simp [pcOn,c252,lend,unown,hfL,AV.hf])), ?_⟩
 have hlt : id < H.length := (List.getElem?_eq_some_iff.1 hid).1
 have : ∃ o H',(cbL tab).ic 252 [inoA n m,.msl 1 id 0 16] H = some (o,H') /\ o = .ret (.tup []) /\ H'[id]? = some (.cells (encs u64A (putF w 1 ((n.target.size : Int) :: layM n.target.data.toList)))) /\ H.length <= H'.length /\ ∀ k,k ≠ id -> k < H.length -> H'[k]? = H[k]? := by
   refine ic_wp (fi := c252) rfl (by simp [pcOn,c252,lend,unown,hfL,AV.hf]) (by simp [c252]) (by decide) ?_
   unfold c252
   have m1 := hm.one.1
   have m2 := hm.one.2
   have hsd := size_data n.target
   have hne0 : n.target.data.toList ≠ [] := fun h => by rw [h] at hsd; simp at hsd; omega
   have lp := fun H => lay_px n.target.data.toList 1 .ro H (by omega) rfl
   rw [prRow_ne (layM_ne_nil hne0)] at lp
   rw [hsd,<- bytesA_encs] at lp
   have ll := layM_len n.target.data.toList
   rw [hsd] at ll
   have hne := layM_ne_nil hne0
   have v1 : IntKind.u64.wrap (n.target.size : Int) = (n.target.size : Int) := wrap_u64 (by omega) (by omega)
   have s1 : (n.target.size : Nat) <= 70368744177664 := by omega
   have ap := fun tk H => app_e2 (n.target.size : Int) (layM n.target.data.toList) tk H hne (by omega)
   obtain ⟨p1,H2,p2,p3,p4,p5⟩ := put_ic id w ((n.target.size : Int) :: layM n.target.data.toList) [] 1 (.own (H ++ [AObj.cells (inoC n m),.tok 1]).length) (H ++ [AObj.cells (inoC n m),.tok 1] ++ [.tok 1])
     (by rw [List.append_assoc,List.getElem?_append_left hlt]; exact hid) hw (by rw [List.length_cons,ll]; omega) (fun _ => rfl)
   have el : ((n.target.size : Int) :: layM n.target.data.toList).length = 1 + (layM n.target.data.toList).length := by rw [List.length_cons,Nat.add_comm]
   rw [el,List.append_nil] at p1 p2
   have nx1 : ∀ A : AObj,(H ++ [A])[H.length]? = some A := fun A => by simp
   simp only [inoA]
   unfold inoC at p1 p2
   simp (disch := omega) only [wk,tupled,↓reduceIte,reduceEqDiff,reduceEq,reduceAdd,reduceCtorEq,m1,m2,nx1,v1,s1,lp,ap,List.append_nil,List.append_assoc]
   simp only [encs_cons,List.append_assoc,List.cons_append,List.nil_append,List.length_append,List.length_cons,List.length_nil,Nat.zero_add,Nat.reduceAdd] at p1 p2
   simp (disch := omega) only [wk,tupled,↓reduceIte,reduceEqDiff,reduceEq,reduceAdd,reduceCtorEq,p1,p2,runE_none lput,List.append_assoc]
   refine ⟨p3,by simp at p4; omega,fun k hk1 hk2 => ?_⟩
   rw [p5 k hk1 (by simp; omega),List.append_assoc,List.getElem?_append_left hk2]
 obtain ⟨o,H',h,rfl,h2⟩ := this
 exact ⟨H',h,h2⟩
def wordsV (n : Ino) : AV := if okI n then .tup [.sl 1 16 (encs u64A (wordsI n)) .ro,.int .i64 0] else .tup [.sl 0 0 [] .z,.int .i64 240]
theorem wordsV_ok {n : Ino} (h : okI n) : wordsV n = .tup [.sl 1 16 (encs u64A (wordsI n)) .ro,.int .i64 0] := if_pos h
theorem wordsV_no {n : Ino} (h : ¬ okI n) : wordsV n = .tup [.sl 0 0 [] .z,.int .i64 240] := if_neg h
theorem tailI_len {n : Ino} (h : okI n) : (tailI n).length <= 15 := by
 obtain ⟨_,_,h | h | h | h⟩ := h
 . simp [tailI,h.1]
 . have ho : (ofM n.map).isSome = true := by
     have h1 := h.2.2.2.2.2.2
     unfold mapOk at h1
     cases hm : ofM n.map with
     | none => rw [hm] at h1; cases h1
     | some t => rfl
   have := wordsE_len (isSome_right ho).1
   simp [tailI,h.1,this]
 . simp [tailI,h.1]
 . have hl := layM_len n.target.data.toList
   rw [size_data] at hl
   have := h.2.2.2.2.2.2.1
   simp [tailI,h.1,hl]
   omega
theorem put_words {n : Ino} (h : okI n) : putF ((n.kind + 256 * n.links) :: List.replicate 15 0) 1 (tailI n) = wordsI n := by
 have hl := tailI_len h
 have := putF_app (tailI n) [n.kind + 256 * n.links] (List.replicate 15 0) (by simpa using hl)
 rw [List.length_singleton] at this
 rw [List.cons_append,List.nil_append] at this
 rw [this,wordsI,List.drop_replicate]
 simp
theorem wordsI_len {n : Ino} (h : okI n) : (wordsI n).length = 16 := by
 have hl := tailI_len h
 rw [wordsI,List.length_cons,List.length_append,List.length_replicate]
 omega
theorem mapOk_some {l : List Ext} {s : Int} (h : mapOk l s = true) : (ofM l).isSome = true := by
 unfold mapOk at h
 cases hm : ofM l with
 | none => rw [hm] at h; cases h
 | some t => rfl
def layF (k : Int) : FuncId := if k = 1 then 239 else if k = 2 then 247 else if k = 3 then 252 else 232
theorem lay_of (n : Ino) (m : AV) (hm : MapR m n.map) (h : okI n) : LayP (layF n.kind) n m (tailI n) := by
 obtain ⟨_,_,h | h | h | h⟩ := h
 . have e1 : layF n.kind = 232 := by rw [h.1]; rfl
   have e2 : tailI n = [] := by simp [tailI,h.1]
   rw [e1,e2]; exact lay0 n m hm
 . have e1 : layF n.kind = 239 := by rw [h.1]; rfl
   have e2 : tailI n = n.size :: wordsE n.map := by simp [tailI,h.1]
   rw [e1,e2]; exact lay1 n m hm (mapOk_some h.2.2.2.2.2.2) h.2.2.2.2.1 h.2.2.2.2.2.1
 . have e1 : layF n.kind = 247 := by rw [h.1]; rfl
   have e2 : tailI n = [0,n.root,n.parent] := by simp [tailI,h.1]
   rw [e1,e2]; exact lay2 n m hm (by omega) (by omega) (by omega) (by omega)
 . have e1 : layF n.kind = 252 := by rw [h.1]; rfl
   have e2 : tailI n = (n.target.size : Int) :: layM n.target.data.toList := by simp [tailI,h.1]
   rw [e1,e2]; exact lay3 n m hm h.2.2.2.2.2.1 h.2.2.2.2.2.2.1
theorem kindA_lay (k : Int) : ∃ f1 f2 f4,kindA k = .agg [.fn f1 [],.fn f2 [],.fn (layF k) [],.fn f4 []] := by
 unfold kindA layF
 by_cases h1 : k = 1
 . simp only [h1,if_true]; exact ⟨_,_,_,rfl⟩
 by_cases h2 : k = 2
 . simp only [h2,if_true,show ¬ (2 : Int) = 1 by decide,if_false]; exact ⟨_,_,_,rfl⟩
 by_cases h3 : k = 3
 . simp only [h3,if_true,show ¬ (3 : Int) = 1 by decide,show ¬ (3 : Int) = 2 by decide,if_false]; exact ⟨_,_,_,rfl⟩
 simp only [h1,h2,h3,if_false]; exact ⟨_,_,_,rfl⟩
theorem layF_lent (k : Int) : (cbL tab).lent (layF k) = false := by
 unfold layF
 split
 . rfl
 . split
   . rfl
   . split <;> rfl
theorem words_px (n : Ino) (m : AV) (hm : MapR m n.map) (hn : n.map.length <= 1000) (H : Heap) : pcx (cbL tab) 189 [inoA n m] H = some (.plain (wordsV n)) := by
 refine pcx_N rfl (pc_wp (fi := c189) rfl ?_ (by simp [c189]) (by decide) ?_)
 . simp only [pcOn,List.map_cons,List.map_nil,hfL,hf_lend_sl,hf_lend_int,hf_lend_bool,hf_lend_str,hfL_append,Bool.and_self,Bool.and_true,Bool.true_and,c189,lend_inoA hm,hf_inoA hm]
 unfold c189
 rw [List.map_cons,List.map_nil,lend_inoA hm]
 have m1 := hm.one.1
 have m2 := hm.one.2
 have r := fun H => right_px n m hm hn H
 by_cases h : okI n
 case neg =>
   rw [rightR_no h] at r
   rw [wordsV_no h]
   unfold pan240 at r
   simp only [inoA] at r ⊢
   simp (disch := omega) only [wk,tupled,↓reduceIte,reduceEqDiff,reduceEq,reduceAdd,reduceCtorEq,m1,m2,r,List.append_nil]
   rw [ends_left_pan (caught_pan 2 _ _ _ _ _ _ _ (clear71 1 _ _ rfl) rfl)]
   simp (disch := omega) only [wk,tupled,↓reduceIte,reduceEqDiff,reduceEq,reduceAdd,reduceCtorEq,purify,unownT,lend,unown,AV.hf,unown,hfL,Tk.hf]
 rw [rightR_ok h] at r
 rw [wordsV_ok h]
 obtain ⟨f1,f2,f4,hk⟩ := kindA_lay n.kind
 rw [hk] at r
 have hkk := okI_kind h
 have hlk := h.1
 have hlk2 := h.2.1
 have v1 : IntKind.u64.wrap n.kind = n.kind := wrap_u64 (by omega) (by omega)
 have v2 : IntKind.u64.wrap n.links = n.links := wrap_u64 (by omega) (by omega)
 have ww := fun H => w824 n.kind n.links hkk.1 (by omega) hlk (by omega) H
 have em : n.kind % 256 + 256 * n.links = n.kind + 256 * n.links := by omega
 rw [em] at ww
 have z16 : repL 16 [AV.int .u64 0] = encs u64A (List.replicate 16 0) := rfl
 have s16 : List.drop 1 (encs u64A (List.replicate 16 0)) = encs u64A (List.replicate 15 0) := rfl
 have l16 : (encs u64A (List.replicate 16 0)).length = 16 := rfl
 have i16 : (0 : Int) < ((16 : Nat) : Int) := by decide
 have mn : madeN 1 8 [AV.int .u64 0] (.int .i64 16) (.int .i64 16) = some 16 := rfl
 obtain ⟨p1,H2,p2,p3,p4,p5⟩ := lay_of n m hm h 4 ((n.kind + 256 * n.links) :: List.replicate 15 0) [.cells (inoC n m),.cells [.msl 1 4 0 16],.cells [.int .i64 0],.cells [.fn f1 [],.fn f2 [],.fn (layF n.kind) [],.fn f4 []],.cells (AV.int .u64 (n.kind + 256 * n.links) :: encs u64A (List.replicate 15 0))] rfl rfl
 rw [put_words h] at p3
 have q1 : H2[1]? = some (.cells [.msl 1 4 0 16]) := by rw [p5 1 (by decide) (by simp)]; rfl
 have q2 : H2[2]? = some (.cells [.int .i64 0]) := by rw [p5 2 (by decide) (by simp)]; rfl
 have h5 : 5 <= H2.length := p4
 have lf := layF_lent n.kind
 unfold inoC at p1 p2
 simp only [inoA] at r p1 p2 ⊢
 have i0 : (0 : Int).toNat = 0 := rfl
 have q1s : ∀ A,((H2.set 1 A).set 2 (.cells [.int .i64 0]))[1]? = some A := fun A => by rw [List.getElem?_set_ne (by decide),List.getElem?_set_self (by omega)]
 have q2s : ∀ A,(H2.set 1 A)[2]? = some (.cells [.int .i64 0]) := fun A => by rw [List.getElem?_set_ne (by decide)]; exact q2
 have q3s : ∀ A B,((H2.set 1 A).set 2 B)[2]? = some B := fun A B => List.getElem?_set_self (by rw [List.length_set]; omega)
 have q4s : ∀ A B,((H2.set 1 A).set 2 B)[4]? = some (.cells (encs u64A (wordsI n))) := fun A B => by rw [List.getElem?_set_ne (by decide),List.getElem?_set_ne (by decide)]; exact p3
 have w16 := wordsI_len h
 have pf : ∀ A B,purify (some (.ret (.tup [.msl 1 4 0 16,.int .i64 0]),(H2.set 1 A).set 2 B)) = some (.plain (.tup [.sl 1 16 (encs u64A (wordsI n)) .ro,.int .i64 0])) := by
   intro A B
   have c : 0 + 16 * 1 <= (encs u64A (wordsI n)).length /\ hfL (encs u64A (wordsI n)) = true /\ (AV.int .i64 0).hf = true := ⟨by rw [lenU,w16]; decide,hf_u64A _,rfl⟩
   have t : List.take (16 * 1) (List.drop 0 (encs u64A (wordsI n))) = encs u64A (wordsI n) := by rw [List.drop_zero,List.take_of_length_le (by rw [lenU,w16]; decide)]
   simp only [purify,q4s,if_pos c,t]
 simp (disch := omega) only [wk,tupled,↓reduceIte,reduceEqDiff,reduceEq,reduceAdd,reduceCtorEq,m1,m2,r,List.append_nil,mn,z16,l16,i16,i0,v1,v2,ww,s16,p1,p2,runE_none lf,q1,q2,q2s]
 rw [ends_left_ret (caught_ret _ _ _ _)]
 simp (disch := omega) only [wk,tupled,↓reduceIte,reduceEqDiff,reduceEq,reduceAdd,reduceCtorEq,q1s,q3s,pf]
end Go.Proofs.YtogbblcnfcfflaaGreat
