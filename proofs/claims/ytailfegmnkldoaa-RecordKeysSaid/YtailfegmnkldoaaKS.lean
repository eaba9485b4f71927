/- SUMS OF BYTES, SEALED WORDS, A LAYOUT'S WORDS. No condition but those stated. -/
import Derived.Test.YtailfegmnkldoaaKL
import Derived.Test.YtailfegmnkldoaaAmRng
set_option linter.unusedSimpArgs false
set_option linter.unusedVariables false
set_option linter.unusedSectionVars false
namespace Go.Proofs.Ytailfegmnkldoaa
open Go Go.Am Go.Rec
set_option maxHeartbeats 4000000
set_option maxRecDepth 10000
def xorI (a b : Int) : Int := ((a.toNat ^^^ b.toNat : Nat) : Int)
theorem xorI_ok {a b : Int} (ha : a < 18446744073709551616) (hb : b < 18446744073709551616) : 0 ≤ xorI a b ∧ xorI a b < 18446744073709551616 := by
  have h1 : a.toNat < 2 ^ 64 := by omega
  have h2 : b.toNat < 2 ^ 64 := by omega
  have := Nat.xor_lt_two_pow h1 h2
  unfold xorI
  omega
theorem u64_xor {xo yo : X} {ek : EqK} {a b : Int} (h0 : 0 ≤ a) (h1 : a < 18446744073709551616) (h2 : 0 ≤ b) (h3 : b < 18446744073709551616) : binV .xor ek xo yo (.int .u64 a) (.int .u64 b) = some (.int .u64 (xorI a b)) := by
  obtain ⟨a, rfl⟩ := Int.eq_ofNat_of_zero_le h0
  obtain ⟨b, rfl⟩ := Int.eq_ofNat_of_zero_le h2
  have hx := xorI_ok h1 h3
  have e : binV .xor ek xo yo (.int .u64 (a : Int)) (.int .u64 (b : Int)) = some (.int .u64 (IntKind.u64.wrap (BitVec.ofInt IntKind.u64.bits (a : Int) ^^^ BitVec.ofInt IntKind.u64.bits (b : Int)).toNat)) := rfl
  rw [e, ofInt_nat, ofInt_nat]
  have h4 : (BitVec.ofNat 64 a ^^^ BitVec.ofNat 64 b).toNat = a ^^^ b := by
    rw [BitVec.toNat_xor, BitVec.toNat_ofNat, BitVec.toNat_ofNat]
    show a % 18446744073709551616 ^^^ b % 18446744073709551616 = _
    rw [Nat.mod_eq_of_lt (by omega), Nat.mod_eq_of_lt (by omega)]
  show some (AV.int .u64 (IntKind.u64.wrap (BitVec.ofNat 64 a ^^^ BitVec.ofNat 64 b).toNat)) = _
  rw [h4]
  have e2 : xorI (a : Int) (b : Int) = ((a ^^^ b : Nat) : Int) := rfl
  rw [e2] at hx ⊢
  rw [wrap_u64 hx.1 hx.2]
theorem u64_not {a : Int} (h0 : 0 ≤ a) (h1 : a < 18446744073709551616) : unV .xor (.int .u64 a) = some (.int .u64 (xorI 18446744073709551615 a)) :=
  u64_xor (xo := .t 0) (yo := .t 0) (ek := .num) (by decide) (by decide) h0 h1
def polyI : Int := 14514072000185962306
def stepM (r : Int) : Int := if r % 2 = 1 then xorI (r / 2) polyI else r / 2
def U64 (a : Int) : Prop := 0 ≤ a ∧ a < 18446744073709551616
theorem U64.x {a b : Int} (ha : U64 a) (hb : U64 b) : U64 (xorI a b) := xorI_ok ha.2 hb.2
theorem stepM_ok {r : Int} (h : U64 r) : U64 (stepM r) := by
  unfold stepM
  have h2 : U64 (r / 2) := ⟨by have := h.1; omega, by have := h.2; have := h.1; omega⟩
  split
  · exact h2.x ⟨by decide, by decide⟩
  · exact h2
theorem and1 {r : Int} (h : U64 r) {xo yo : X} {ek : EqK} : binV .and ek xo yo (.int .u64 r) (.int .u64 1) = some (.int .u64 (r % 2)) := by
  obtain ⟨a, rfl⟩ := Int.eq_ofNat_of_zero_le h.1
  have := u64_and (xo := xo) (yo := yo) (ek := ek) (a := a) (b := 1) (by have := h.2; omega)
  rw [show (1 : Nat) % 18446744073709551616 = 1 from rfl, Nat.and_one_is_mod] at this
  exact this
theorem in_step1 {args : List AV} {H : Heap} : pcx (cbL tab) 213 args H = none := pcx_none rfl (pc_none (fi := c213) rfl rfl)
theorem ll_step1 : (cbL tab).lent 213 = false := rfl
theorem step1_ic {H : Heap} {a : Nat} {r : Int} (hr : U64 r) (h : H[a]? = some (.cells [.int .u64 r])) : (cbL tab).ic 213 [.ptr a 0] H = some (.ret (.bool (decide (r % 2 = 1))), H) := by
  have : ∃ o H', (cbL tab).ic 213 [.ptr a 0] H = some (o, H') ∧ o = .ret (.bool (decide (r % 2 = 1))) ∧ H' = H := by
    refine ic_wp (fi := c213) rfl rfl (by simp [c213]) (by decide) ?_
    unfold c213
    have a1 := fun xo yo ek => and1 (xo := xo) (yo := yo) (ek := ek) hr
    simp (disch := omega) only [wk, avalE, aactE, evPE, boundE, asNat, bv_seql cellsEq_ii, bv_sneqd cellsEq_ii, readC, allOne, fillL, resE, tupled, ↓reduceIte, Nat.reduceEqDiff, Int.reduceEq, Int.reduceLT, Int.reduceLE, Nat.reduceAdd, Nat.reduceMul, Nat.reduceLT, Nat.reduceLeDiff, reduceCtorEq, h, a1]
  obtain ⟨o, H', h, rfl, rfl⟩ := this
  exact h
theorem step_px {r : Int} (hr : U64 r) (H : Heap) : pcx (cbL tab) 210 [.int .u64 r] H = some (.plain (.int .u64 (stepM r))) := by
  refine pcx_N rfl (pc_wp (fi := c210) rfl rfl (by simp [c210]) (by decide) ?_)
  unfold c210
  rw [List.map_cons, List.map_nil, lend_int]
  have s1 : (cbL tab).ic 213 [.ptr 0 0] [.cells [.int .u64 r]] = _ := step1_ic (H := [.cells [.int .u64 r]]) (a := 0) hr rfl
  have sh : ∀ {xo yo : X} {ek : EqK}, binV .shr ek xo yo (.int .u64 r) (.int .u64 1) = some (.int .u64 (r / 2)) := fun {xo yo ek} => u64_shr (by decide) (by decide)
  have hr2 : U64 (r / 2) := ⟨by have := hr.1; omega, by have := hr.2; have := hr.1; omega⟩
  have xp : ∀ {xo yo : X} {ek : EqK}, binV .xor ek xo yo (.int .u64 (r / 2)) (.int .u64 14514072000185962306) = some (.int .u64 (xorI (r / 2) polyI)) := fun {xo yo ek} => u64_xor hr2.1 hr2.2 (by decide) (by decide)
  unfold stepM
  by_cases h : r % 2 = 1
  · rw [if_pos h]
    simp (disch := omega) only [wk, avalE, aactE, evPE, boundE, asNat, bv_seql cellsEq_ii, bv_sneqd cellsEq_ii, readC, allOne, fillL, resE, tupled, ↓reduceIte, Nat.reduceEqDiff, Int.reduceEq, Int.reduceLT, Int.reduceLE, Nat.reduceAdd, Nat.reduceMul, Nat.reduceLT, Nat.reduceLeDiff, reduceCtorEq, s1, h, sh, xp, in_step1, runE_none ll_step1, purify, unownT, lend, unown, AV.hf, hfL]
  · rw [if_neg h]
    simp (disch := omega) only [wk, avalE, aactE, evPE, boundE, asNat, bv_seql cellsEq_ii, bv_sneqd cellsEq_ii, readC, allOne, fillL, resE, tupled, ↓reduceIte, Nat.reduceEqDiff, Int.reduceEq, Int.reduceLT, Int.reduceLE, Nat.reduceAdd, Nat.reduceMul, Nat.reduceLT, Nat.reduceLeDiff, reduceCtorEq, s1, h, sh, xp, in_step1, runE_none ll_step1, purify, unownT, lend, unown, AV.hf, hfL]
def itM : Nat → Int → Int
  | 0, r => r
  | k + 1, r => itM k (stepM r)
theorem itM_ok : ∀ (k : Nat) {r : Int}, U64 r → U64 (itM k r)
  | 0, _, h => h
  | k + 1, _, h => itM_ok k (stepM_ok h)
def intoM (r : Int) (b : UInt8) : Int := itM 8 (xorI r b.toNat)
theorem by_u64 (b : UInt8) : U64 (b.toNat : Int) := ⟨by omega, by have := b.toNat_lt; omega⟩
theorem intoM_ok {r : Int} (h : U64 r) (b : UInt8) : U64 (intoM r b) := itM_ok 8 (h.x (by_u64 b))
theorem into_px {r : Int} (hr : U64 r) (b : UInt8) (H : Heap) : pcx (cbL tab) 203 [.int .u64 r, .int .u8 b.toNat] H = some (.plain (.int .u64 (intoM r b))) := by
  refine pcx_N rfl (pc_wp (fi := c203) rfl rfl (by simp [c203]) (by decide) ?_)
  unfold c203
  rw [List.map_cons, List.map_cons, List.map_nil, lend_int, lend_int]
  have hb := by_u64 b
  have xp : ∀ {xo yo : X} {ek : EqK}, binV .xor ek xo yo (.int .u64 r) (.int .u64 (b.toNat : Nat)) = some (.int .u64 (xorI r b.toNat)) := fun {xo yo ek} => u64_xor hr.1 hr.2 hb.1 hb.2
  have wr : IntKind.u64.wrap (b.toNat : Int) = (b.toNat : Int) := wrap_u64 hb.1 hb.2
  simp (disch := omega) only [wk, avalE, aactE, evPE, boundE, asNat, bv_seql cellsEq_ii, bv_sneqd cellsEq_ii, readC, allOne, fillL, resE, tupled, ↓reduceIte, Nat.reduceEqDiff, Int.reduceEq, Int.reduceLT, Int.reduceLE, Nat.reduceAdd, Nat.reduceMul, Nat.reduceLT, Nat.reduceLeDiff, reduceCtorEq, xp, wr]
  have hx := hr.x hb
  refine loop_ind (fun (x : Nat × Int) E df H => x.1 ≤ 8 ∧ U64 x.2 ∧ intoM r b = itM (8 - x.1) x.2 ∧ E 0 = .int .u64 x.2 ∧ E 9 = .int .i64 (x.1 : Nat) ∧ df = [])
    (fun x => 8 - x.1) (0, xorI r b.toNat) (by decide) (.inl rfl) ⟨by omega, hx, rfl, rfl, rfl, rfl⟩ ?_
  intro ⟨j, q⟩ E df H ih hP
  obtain ⟨a1, a2, a3, E0, E9, hdf⟩ := hP
  dsimp only at a1 a2 a3 E0 E9
  subst hdf
  have st := fun H => step_px a2 H
  by_cases hj : j < 8
  · have n1 : (j : Int) < 8 := by omega
    simp (disch := omega) only [wk, avalE, aactE, evPE, boundE, asNat, bv_seql cellsEq_ii, bv_sneqd cellsEq_ii, readC, allOne, fillL, resE, tupled, ↓reduceIte, Nat.reduceEqDiff, Int.reduceEq, Int.reduceLT, Int.reduceLE, Nat.reduceAdd, Nat.reduceMul, Nat.reduceLT, Nat.reduceLeDiff, reduceCtorEq, E0, E9, n1, st]
    refine ih (j + 1, stepM q) _ _ _ (by dsimp only; omega) ⟨by dsimp only; omega, stepM_ok a2, ?_, by simp only [en, ↓reduceIte, Nat.reduceEqDiff], by simp only [en, ↓reduceIte, Nat.reduceEqDiff], rfl⟩
    dsimp only
    rw [a3, show 8 - j = (8 - (j + 1)) + 1 by omega]
    rfl
  · obtain rfl : j = 8 := by omega
    rw [a3]
    have e : itM (8 - 8) q = q := rfl
    rw [e]
    have n1 : ¬ ((8 : Nat) : Int) < 8 := by omega
    simp (disch := omega) only [wk, avalE, aactE, evPE, boundE, asNat, bv_seql cellsEq_ii, bv_sneqd cellsEq_ii, readC, allOne, fillL, resE, tupled, ↓reduceIte, Nat.reduceEqDiff, Int.reduceEq, Int.reduceLT, Int.reduceLE, Nat.reduceAdd, Nat.reduceMul, Nat.reduceLT, Nat.reduceLeDiff, reduceCtorEq, E0, E9, n1, purify, unownT, lend, unown, AV.hf, hfL]
def mvAs : ACode := (.region [⟨(.some 6), (.mv (.t 11)), .none⟩])
def mvBd : ACode := (.block 1 (.region [⟨(.some 12), (.load 1 false (.t 5)), .none⟩, ⟨(.some 13), (.mv (.t 6)), .none⟩, ⟨(.some 14), (.callf 203 [(.t 12), (.t 13)]), .none⟩, ⟨.none, (.store 1 (.t 5) (.t 14)), .none⟩]))
theorem in_Val {args : List AV} {H : Heap} : pcx (cbL tab) 202 args H = none := pcx_none rfl (pc_none (fi := c202) rfl rfl)
theorem ll_Val : (cbL tab).lent 202 = false := rfl
theorem val_ic (l : List UInt8) (tk : Tk) (H : Heap) : (cbL tab).ic 202 [.sl 1 l.length (encs byA l) tk] H = some (.ret (.fn 209 [.ptr H.length 0]), H ++ [.cells [.sl 1 l.length (encs byA l) tk]]) := by
  have : ∃ o H', (cbL tab).ic 202 [.sl 1 l.length (encs byA l) tk] H = some (o, H') ∧ o = .ret (.fn 209 [.ptr H.length 0]) ∧ H' = H ++ [.cells [.sl 1 l.length (encs byA l) tk]] := by
    refine ic_wp (fi := c202) rfl rfl (by simp [c202]) (by decide) ?_
    unfold c202
    simp (disch := omega) only [wk, avalE, aactE, evPE, boundE, asNat, bv_seql cellsEq_ii, bv_sneqd cellsEq_ii, readC, allOne, fillL, resE, tupled, ↓reduceIte, Nat.reduceEqDiff, Int.reduceEq, Int.reduceLT, Int.reduceLE, Nat.reduceAdd, Nat.reduceMul, Nat.reduceLT, Nat.reduceLeDiff, reduceCtorEq]
  obtain ⟨o, H', h, rfl, rfl⟩ := this
  exact h
theorem val1_ic (R : Nat → Heap → Prop) (id k : Nat) (L : List UInt8) (hL : L.length ≤ 100000) (tk : Tk)
    (hstep : ∀ (H : Heap) (j : Nat) (x : UInt8), L[j]? = some x → R j H → ∃ H', (cbL tab).yl id [.int .u8 (x.toNat : Nat)] H = some (.ret (.bool true), H') ∧ R (j + 1) H')
    (H : Heap) (hR : R 0 H) (ha : H[k]? = some (.cells [.sl 1 L.length (encs byA L) tk])) :
    ∃ o H', (cbL tab).ic 209 [.yld id, .ptr k 0] H = some (o, H') ∧ o = .ret (.tup []) ∧ R L.length H' := by
  refine ic_wp (fi := c209) rfl rfl (by simp [c209]) (by decide) ?_
  unfold c209
  simp (disch := omega) only [wk, avalE, aactE, evPE, boundE, asNat, bv_seql cellsEq_ii, bv_sneqd cellsEq_ii, readC, allOne, fillL, resE, tupled, ↓reduceIte, Nat.reduceEqDiff, Int.reduceEq, Int.reduceLT, Int.reduceLE, Nat.reduceAdd, Nat.reduceMul, Nat.reduceLT, Nat.reduceLeDiff, reduceCtorEq, ha]
  refine loop_ind (fun (x : List UInt8 × List UInt8) E df H => L = x.1 ++ x.2 ∧ E 0 = .yld id ∧ E 5 = .sl 1 L.length (encs byA L) tk ∧ E 6 = .int .i64 (L.length : Nat) ∧ E 7 = .int .i64 (x.1.length : Nat) ∧ df = [] ∧ R x.1.length H)
    (fun x => x.2.length) ([], L) (by decide) (.inl rfl) ⟨rfl, rfl, rfl, rfl, rfl, rfl, hR⟩ ?_
  intro ⟨pre, suf⟩ F df H1 ih hP
  obtain ⟨a1, F0, F5, F6, F7, hdf, hR1⟩ := hP
  dsimp only at a1 F7 hR1
  subst hdf
  have la : L.length = pre.length + suf.length := by rw [a1, List.length_append]
  cases suf with
  | nil =>
    have n1 : ¬ (pre.length : Int) < (L.length : Int) := by simp at la; omega
    have e : pre.length = L.length := by simp at la; omega
    rw [e] at hR1
    simp (disch := omega) only [wk, avalE, aactE, evPE, boundE, asNat, bv_seql cellsEq_ii, bv_sneqd cellsEq_ii, readC, allOne, fillL, resE, tupled, ↓reduceIte, Nat.reduceEqDiff, Int.reduceEq, Int.reduceLT, Int.reduceLE, Nat.reduceAdd, Nat.reduceMul, Nat.reduceLT, Nat.reduceLeDiff, reduceCtorEq, F0, F5, F6, F7, n1]
    exact hR1
  | cons x r =>
    simp only [List.length_cons] at la
    have d1 : List.drop pre.length (encs byA L) = .int .u8 (x.toNat : Nat) :: encs byA r := by
      have := tdrop pre x r
      rw [Nat.mul_one] at this
      rw [a1, this]
    have n1 : (pre.length : Int) < (L.length : Int) := by omega
    obtain ⟨H2, y1, y2⟩ := hstep H1 pre.length x (by rw [a1, List.getElem?_append_right (Nat.le_refl _), Nat.sub_self]; rfl) hR1
    simp (disch := omega) only [wk, avalE, aactE, evPE, boundE, asNat, bv_seql cellsEq_ii, bv_sneqd cellsEq_ii, readC, allOne, fillL, resE, tupled, ↓reduceIte, Nat.reduceEqDiff, Int.reduceEq, Int.reduceLT, Int.reduceLE, Nat.reduceAdd, Nat.reduceMul, Nat.reduceLT, Nat.reduceLeDiff, reduceCtorEq, F0, F5, F6, F7, n1, d1, y1, Bool.not_true]
    refine ih (pre ++ [x], r) _ _ _ (by simp) ?_
    exact ⟨by simp [a1], by simp only [en, ↓reduceIte, Nat.reduceEqDiff, F0], by simp only [en, ↓reduceIte, Nat.reduceEqDiff, F5], by simp only [en, ↓reduceIte, Nat.reduceEqDiff, F6], by simp only [en, ↓reduceIte, Nat.reduceEqDiff], rfl, by dsimp only; rw [List.length_append]; exact y2⟩
def foldM (l : List UInt8) (r : Int) : Int := l.foldl intoM r
theorem foldM_ok : ∀ (l : List UInt8) {r : Int}, U64 r → U64 (foldM l r)
  | [], _, h => h
  | b :: l, _, h => foldM_ok l (intoM_ok h b)
theorem foldM_take {l : List UInt8} {j : Nat} {x : UInt8} (h : l[j]? = some x) (r : Int) : foldM (l.take (j + 1)) r = intoM (foldM (l.take j) r) x := by
  rw [List.take_add_one, h]
  unfold foldM
  rw [List.foldl_append]
  rfl
/-- What the loop over bytes keeps. -/
structure MvR (k id : Nat) (L : List UInt8) (r0 : Int) (H1 : Heap) (j : Nat) (H : Heap) : Prop where
  own : H[k]? = some (.cells [.int .u64 (foldM (L.take j) r0)])
  keep : ∀ (i : Nat) (o : AObj), i ≠ k → H1[i]? = some o → H[i]? = some o
theorem mv_round {k id : Nat} {tm : List AV} {L : List UInt8} {r0 : Int} (hr0 : U64 r0) {H1 : Heap} {E : Env} (ha : Ag 17 tm E) (E5 : E 5 = .ptr k 0) (hki : k ≠ id) (hlo : H1[id]? = some (.loop 0 .normal tm [11] mvAs mvBd))
    (j : Nat) (x : UInt8) (hx : L[j]? = some x) (H : Heap) (hR : MvR k id L r0 H1 j H) :
    ∃ H', (cbL tab).yl id [.int .u8 (x.toNat : Nat)] H = some (.ret (.bool true), H') ∧ MvR k id L r0 H1 (j + 1) H' := by
  obtain ⟨hv, hkeep⟩ := hR
  have hloH := hkeep id _ (fun e => hki e.symm) hlo
  have ip := fun H => into_px (foldM_ok (L.take j) hr0) x H
  have key := yl_wp (tab := tab) (id := id) (P := fun b H' => b = true ∧ MvR k id L r0 H1 (j + 1) H') (args := [.int .u8 (x.toNat : Nat)]) (H := H) (readLoop_of hloH) ha rfl (by decide) (by decide) (by decide) (by decide) (by decide) ?_
  · obtain ⟨b, H', k1, rfl, k2⟩ := key
    exact ⟨H', k1, k2⟩
  unfold mvAs
  simp (disch := omega) only [wk, avalE, aactE, evPE, boundE, asNat, bv_seql cellsEq_ii, bv_sneqd cellsEq_ii, readC, allOne, fillL, resE, tupled, ↓reduceIte, Nat.reduceEqDiff, Int.reduceEq, Int.reduceLT, Int.reduceLE, Nat.reduceAdd, Nat.reduceMul, Nat.reduceLT, Nat.reduceLeDiff, reduceCtorEq, updPs_cons, updPs_nil]
  refine ⟨rfl, rfl, _, _, _, _, _, readLoop_of hloH, ?_⟩
  unfold mvBd
  have kk : ∀ o, (H.set id o)[k]? = some (.cells [.int .u64 (foldM (L.take j) r0)]) := fun o => by rw [List.getElem?_set_ne (fun e => hki e.symm)]; exact hv
  rw [← foldM_take hx] at ip
  simp (disch := omega) only [wk, avalE, aactE, evPE, boundE, asNat, bv_seql cellsEq_ii, bv_sneqd cellsEq_ii, readC, allOne, fillL, resE, tupled, ↓reduceIte, Nat.reduceEqDiff, Int.reduceEq, Int.reduceLT, Int.reduceLE, Nat.reduceAdd, Nat.reduceMul, Nat.reduceLT, Nat.reduceLeDiff, reduceCtorEq, E5, kk, ip]
  have i2 : ∀ o o', ((H.set id o).set k o')[id]? = some o := fun o o' => by rw [List.getElem?_set_ne hki, List.getElem?_set_self (List.getElem?_eq_some_iff.1 hloH).1]
  refine ⟨rfl, _, _, _, _, _, _, readLoop_of (i2 _ _), rfl, ?_, ?_⟩
  · rw [List.getElem?_set_ne (fun e => hki e.symm), List.getElem?_set_self]
    rw [List.length_set]
    exact (List.getElem?_eq_some_iff.1 hv).1
  · intro i o hi ho'
    by_cases hii : i = id
    · subst hii
      rw [hlo] at ho'
      cases ho'
      rw [List.getElem?_set_self (by simpa using (List.getElem?_eq_some_iff.1 hloH).1)]
      rfl
    · rw [List.getElem?_set_ne (fun e => hii e.symm), List.getElem?_set_ne (fun e => hi e.symm), List.getElem?_set_ne (fun e => hii e.symm)]
      exact hkeep i o hi ho'
def ones : Int := 18446744073709551615
def moreM (s : Int) (l : List UInt8) : Int := xorI ones (foldM l (xorI ones s))
theorem ones_ok : U64 ones := ⟨by decide, by decide⟩
theorem moreM_ok {s : Int} (h : U64 s) (l : List UInt8) : U64 (moreM s l) := ones_ok.x (foldM_ok l (ones_ok.x h))
theorem more_px {s : Int} (hs : U64 s) (l : List UInt8) (hl : l.length ≤ 100000) (tk : Tk) (H : Heap) : pcx (cbL tab) 193 [.int .u64 s, .sl 1 l.length (encs byA l) tk] H = some (.plain (.int .u64 (moreM s l))) := by
  obtain ⟨u1, e1, f1⟩ := lend_sl 1 l.length (encs byA l) tk
  have hfb : hfL (encs byA l) = true := hfL_encs (fun _ => rfl) l
  refine pcx_N rfl (pc_wp (fi := c193) rfl ?_ (by simp [c193]) (by decide) ?_)
  · simp only [pcOn, List.map_cons, List.map_nil, hfL, hf_lend_sl, hf_lend_int, hf_lend_bool, hf_lend_str, hfL_append, Bool.and_self, Bool.and_true, Bool.true_and, c193, hfb]
  unfold c193
  rw [List.map_cons, List.map_cons, List.map_nil, e1, lend_int]
  have un := u64_not hs.1 hs.2
  have vi : (cbL tab).ic 202 [.sl 1 l.length (encs byA l) u1] [.cells [.int .u64 (xorI ones s)]] = _ := val_ic l u1 [.cells [.int .u64 (xorI ones s)]]
  have un' : unV .xor (.int .u64 s) = some (.int .u64 (xorI ones s)) := un
  have hr0 := ones_ok.x hs
  simp (disch := omega) only [wk, avalE, aactE, evPE, boundE, asNat, bv_seql cellsEq_ii, bv_sneqd cellsEq_ii, readC, allOne, fillL, resE, tupled, ↓reduceIte, Nat.reduceEqDiff, Int.reduceEq, Int.reduceLT, Int.reduceLE, Nat.reduceAdd, Nat.reduceMul, Nat.reduceLT, Nat.reduceLeDiff, reduceCtorEq, un', vi, in_Val, runE_none ll_Val]
  refine ret_range (f := 209) (caps := [.ptr 1 0]) (by simp only [en, ↓reduceIte, Nat.reduceEqDiff, evE_t]) (fun tm ha => ?_)
  obtain ⟨o, H2, q1, rfl, hR⟩ := val1_ic (fun j H => MvR 0 3 l (xorI ones s) [.cells [.int .u64 (xorI ones s)], .cells [.sl 1 l.length (encs byA l) u1], .defd, .loop 0 .normal tm [11] mvAs mvBd] j H) 3 1 l hl u1
    (fun H j x hx hR => mv_round hr0 ha (by simp only [en, ↓reduceIte, Nat.reduceEqDiff]) (by decide) rfl j x hx H hR)
    [.cells [.int .u64 (xorI ones s)], .cells [.sl 1 l.length (encs byA l) u1], .defd, .loop 0 .normal tm [11] mvAs mvBd] ⟨rfl, fun _ _ _ h => h⟩ rfl
  obtain ⟨hv, hkeep⟩ := hR
  have l2 := hkeep 3 _ (by decide) rfl
  have d2 := hkeep 2 _ (by decide) rfl
  refine ⟨_, H2, _, _, _, _, _, _, q1, readLoop_of l2, by decide, rfl, ?_⟩
  change Ret _ _ _ _ _ _ _ _ (H2.set 3 (.loop 3 .normal tm [11] mvAs mvBd))
  rw [List.take_of_length_le (Nat.le_refl _)] at hv
  have v3 : (H2.set 3 (.loop 3 .normal tm [11] mvAs mvBd))[0]? = some (.cells [.int .u64 (foldM l (xorI ones s))]) := by rw [List.getElem?_set_ne (by decide)]; exact hv
  have d3 : (H2.set 3 (.loop 3 .normal tm [11] mvAs mvBd))[2]? = some .defd := by rw [List.getElem?_set_ne (by decide)]; exact d2
  have fo := foldM_ok l hr0
  have un2 : unV .xor (.int .u64 (foldM l (xorI ones s))) = some (.int .u64 (moreM s l)) := u64_not fo.1 fo.2
  simp (disch := omega) only [wk, avalE, aactE, evPE, boundE, asNat, bv_seql cellsEq_ii, bv_sneqd cellsEq_ii, readC, allOne, fillL, resE, tupled, ↓reduceIte, Nat.reduceEqDiff, Int.reduceEq, Int.reduceLT, Int.reduceLE, Nat.reduceAdd, Nat.reduceMul, Nat.reduceLT, Nat.reduceLeDiff, reduceCtorEq, v3, un2]
  rw [ends_mark d3]
  simp (disch := omega) only [wk, avalE, aactE, evPE, boundE, asNat, bv_seql cellsEq_ii, bv_sneqd cellsEq_ii, readC, allOne, fillL, resE, tupled, ↓reduceIte, Nat.reduceEqDiff, Int.reduceEq, Int.reduceLT, Int.reduceLE, Nat.reduceAdd, Nat.reduceMul, Nat.reduceLT, Nat.reduceLeDiff, reduceCtorEq, purify, unownT, lend, unown, AV.hf, hfL]
theorem sum_px (l : List UInt8) (hl : l.length ≤ 100000) (tk : Tk) (H : Heap) : pcx (cbL tab) 182 [.sl 1 l.length (encs byA l) tk] H = some (.plain (.int .u64 (moreM 0 l))) := by
  obtain ⟨u1, e1, f1⟩ := lend_sl 1 l.length (encs byA l) tk
  have hfb : hfL (encs byA l) = true := hfL_encs (fun _ => rfl) l
  refine pcx_N rfl (pc_wp (fi := c182) rfl ?_ (by simp [c182]) (by decide) ?_)
  · simp only [pcOn, List.map_cons, List.map_nil, hfL, hf_lend_sl, hf_lend_int, hf_lend_bool, hf_lend_str, hfL_append, Bool.and_self, Bool.and_true, Bool.true_and, c182, hfb]
  unfold c182
  rw [List.map_cons, List.map_nil, e1]
  have mp := fun H => more_px (s := 0) ⟨by decide, by decide⟩ l hl u1 H
  simp (disch := omega) only [wk, avalE, aactE, evPE, boundE, asNat, bv_seql cellsEq_ii, bv_sneqd cellsEq_ii, readC, allOne, fillL, resE, tupled, ↓reduceIte, Nat.reduceEqDiff, Int.reduceEq, Int.reduceLT, Int.reduceLE, Nat.reduceAdd, Nat.reduceMul, Nat.reduceLT, Nat.reduceLeDiff, reduceCtorEq, mp, purify, unownT, lend, unown, AV.hf, hfL]
end Go.Proofs.Ytailfegmnkldoaa
