/- ROUNDS OF A HASH. No condition but those stated. -/
import Derived.Test.YtailfegmnkldoaaKS
set_option linter.unusedSimpArgs false
set_option linter.unusedVariables false
set_option linter.unusedSectionVars false
namespace Go.Proofs.Ytailfegmnkldoaa
open Go Go.Am Go.Rec
set_option maxHeartbeats 4000000
set_option maxRecDepth 10000
def orI (a b : Int) : Int := ((a.toNat ||| b.toNat : Nat) : Int)
theorem orI_ok {a b : Int} (ha : a < 18446744073709551616) (hb : b < 18446744073709551616) : 0 ≤ orI a b ∧ orI a b < 18446744073709551616 := by
  have h1 : a.toNat < 2 ^ 64 := by omega
  have h2 : b.toNat < 2 ^ 64 := by omega
  have := Nat.or_lt_two_pow h1 h2
  unfold orI
  omega
theorem u64_orI {xo yo : X} {ek : EqK} {a b : Int} (ha : U64 a) (hb : U64 b) : binV .or ek xo yo (.int .u64 a) (.int .u64 b) = some (.int .u64 (orI a b)) := by
  obtain ⟨a, rfl⟩ := Int.eq_ofNat_of_zero_le ha.1
  obtain ⟨b, rfl⟩ := Int.eq_ofNat_of_zero_le hb.1
  exact u64_or (by have := ha.2; omega) (by have := hb.2; omega)
def rotM (w : Int) (n : Nat) : Int := orI (w * 2 ^ n % 18446744073709551616) (w / 2 ^ (64 - n))
theorem rot_parts {w : Int} (h : U64 w) (n : Nat) : U64 (w * 2 ^ n % 18446744073709551616) ∧ U64 (w / 2 ^ (64 - n)) := by
  refine ⟨⟨Int.emod_nonneg _ (by decide), Int.emod_lt_of_pos _ (by decide)⟩, ⟨Int.ediv_nonneg h.1 (Int.le_of_lt (Int.pow_pos (by decide))), ?_⟩⟩
  exact Int.lt_of_le_of_lt (Int.ediv_le_self _ h.1) h.2
theorem rotM_ok {w : Int} (h : U64 w) (n : Nat) : U64 (rotM w n) := orI_ok (rot_parts h n).1.2 (rot_parts h n).2.2
theorem rot_px {w : Int} (h : U64 w) (n : Nat) (hn : n < 64) (H : Heap) : pcx (cbL tab) 200 [.int .u64 w, .int .i64 (n : Nat)] H = some (.plain (.int .u64 (rotM w n))) := by
  refine pcx_N rfl (pc_wp (fi := c200) rfl rfl (by simp [c200]) (by decide) ?_)
  unfold c200
  rw [List.map_cons, List.map_cons, List.map_nil, lend_int, lend_int]
  have w1 : IntKind.u64.wrap (n : Int) = (n : Int) := wrap_u64 (by omega) (by omega)
  have a63 : ∀ {xo yo : X} {ek : EqK}, binV .and ek xo yo (.int .u64 (n : Nat)) (.int .u64 63) = some (.int .u64 (n : Nat)) := fun {xo yo ek} => by
    have := u64_and (xo := xo) (yo := yo) (ek := ek) (a := n) (b := 63) (by omega)
    rw [show (63 : Nat) % 18446744073709551616 = 2 ^ 6 - 1 from rfl, Nat.and_two_pow_sub_one_eq_mod, Nat.mod_eq_of_lt (by omega)] at this
    exact this
  have sl : ∀ {xo yo : X} {ek : EqK}, binV .shl ek xo yo (.int .u64 w) (.int .u64 (n : Nat)) = some (.int .u64 (w * 2 ^ n % 18446744073709551616)) := fun {xo yo ek} => by
    have e : binV .shl ek xo yo (.int .u64 w) (.int .u64 (n : Nat)) = (if (n : Int) < 0 then none else some (.int .u64 (IntKind.u64.wrap (w * 2 ^ (min (n : Int).toNat 64))))) := rfl
    rw [e, if_neg (by omega)]
    have : min ((n : Int).toNat) 64 = n := by omega
    rw [this]
    have : IntKind.u64.wrap (w * 2 ^ n) = w * 2 ^ n % 18446744073709551616 := by simp [IntKind.wrap, IntKind.signed, IntKind.bits]
    rw [this]
  have sr : ∀ {xo yo : X} {ek : EqK}, binV .shr ek xo yo (.int .u64 w) (.int .u64 (64 - (n : Int))) = some (.int .u64 (w / 2 ^ (64 - n))) := fun {xo yo ek} => by
    have := u64_shr (xo := xo) (yo := yo) (ek := ek) (a := w) (b := 64 - (n : Int)) (k := .u64) (by omega) (by omega)
    rwa [show (64 - (n : Int)).toNat = 64 - n by omega] at this
  have rp := rot_parts h n
  have oo : ∀ {xo yo : X} {ek : EqK}, binV .or ek xo yo (.int .u64 (w * 2 ^ n % 18446744073709551616)) (.int .u64 (w / 2 ^ (64 - n))) = some (.int .u64 (rotM w n)) := fun {xo yo ek} => u64_orI rp.1 rp.2
  generalize w * 2 ^ n % 18446744073709551616 = p at *
  generalize w / 2 ^ (64 - n) = q at *
  simp (disch := omega) only [wk, avalE, aactE, evPE, boundE, asNat, bv_seql cellsEq_ii, bv_sneqd cellsEq_ii, readC, allOne, fillL, resE, tupled, ↓reduceIte, Nat.reduceEqDiff, Int.reduceEq, Int.reduceLT, Int.reduceLE, Nat.reduceAdd, Nat.reduceMul, Nat.reduceLT, Nat.reduceLeDiff, reduceCtorEq, w1, a63, sl, sr, oo, purify, unownT, lend, unown, AV.hf, hfL]
structure V4 where
  a : Int
  b : Int
  c : Int
  d : Int
def V4.ok (v : V4) : Prop := U64 v.a ∧ U64 v.b ∧ U64 v.c ∧ U64 v.d
def vA (v : V4) (rest : List AV) : List AV := .int .u64 v.a :: .int .u64 v.b :: .int .u64 v.c :: .int .u64 v.d :: rest
def add64 (a b : Int) : Int := (a + b) % 18446744073709551616
theorem add64_ok (a b : Int) : U64 (add64 a b) := ⟨Int.emod_nonneg _ (by decide), Int.emod_lt_of_pos _ (by decide)⟩
theorem wrap_add (a b : Int) : IntKind.u64.wrap (a + b) = add64 a b := by simp [IntKind.wrap, IntKind.signed, IntKind.bits, add64]
def turnsA : List AV := [.int .i64 13, .int .i64 32, .int .i64 16, .int .i64 21, .int .i64 17, .int .i64 32]
theorem turns_px (H : Heap) : pcx (cbL tab) 198 [] H = some (.plain (.agg turnsA)) := pcx_N rfl (cbL_pc.2 ⟨6, by kernel_rfl⟩)
def Keep (a : Nat) (H H' : Heap) : Prop := H.length ≤ H'.length ∧ ∀ (i : Nat) (o : AObj), i ≠ a → H[i]? = some o → H'[i]? = some o
theorem Keep.refl (a : Nat) (H : Heap) : Keep a H H := ⟨Nat.le_refl _, fun _ _ _ h => h⟩
theorem Keep.trans {a : Nat} {H H' H'' : Heap} (h : Keep a H H') (k : Keep a H' H'') : Keep a H H'' := ⟨Nat.le_trans h.1 k.1, fun i o hi hh => k.2 i o hi (h.2 i o hi hh)⟩
theorem Keep.app (a : Nat) (H L : Heap) : Keep a H (H ++ L) := ⟨by simp, fun i o _ h => by rw [List.getElem?_append_left (List.getElem?_eq_some_iff.1 h).1]; exact h⟩
theorem Keep.set (a : Nat) (H : Heap) (o : AObj) : Keep a H (H.set a o) := ⟨by simp, fun i q hi h => by rw [List.getElem?_set_ne (fun e => hi e.symm)]; exact h⟩
theorem set_ne {H : Heap} {i j : Nat} {o : AObj} (h : i ≠ j) : (H.set i o)[j]? = H[j]? := List.getElem?_set_ne h
theorem set_eq {H : Heap} {i : Nat} {o q : AObj} (h : H[i]? = some q) : (H.set i o)[i]? = some o := by
  rw [List.getElem?_set_self (List.getElem?_eq_some_iff.1 h).1]
theorem in_half {args : List AV} {H : Heap} : pcx (cbL tab) 199 args H = none := pcx_none rfl (pc_none (fi := c199) rfl rfl)
theorem ll_half : (cbL tab).lent 199 = false := rfl
theorem half01_ic {H : Heap} {a p q : Nat} {v : V4} {rest : List AV} (hv : v.ok) (ha : H[a]? = some (.cells (vA v rest))) (hp : H[p]? = some (.cells [.ptr a 0])) (hq : H[q]? = some (.cells turnsA)) (h1 : a ≠ p) (h2 : a ≠ q) :
    (cbL tab).ic 199 [.int .i64 0, .int .i64 1, .int .i64 0, .ptr p 0, .ptr q 0] H = some (.ret (.tup []), H.set a (.cells (vA { v with a := add64 v.a v.b, b := xorI (rotM v.b 13) (add64 v.a v.b) } rest))) := by
  have key : ∃ o H', (cbL tab).ic 199 [.int .i64 0, .int .i64 1, .int .i64 0, .ptr p 0, .ptr q 0] H = some (o, H') ∧ o = .ret (.tup []) ∧ H' = H.set a (.cells (vA { v with a := add64 v.a v.b, b := xorI (rotM v.b 13) (add64 v.a v.b) } rest)) := by
    refine ic_wp (fi := c199) rfl rfl (by simp [c199]) (by decide) ?_
    unfold c199
    unfold vA turnsA at *
    have s1 : ∀ o, (H.set a o)[a]? = some o := fun o => set_eq ha
    have s2 : ∀ o, (H.set a o)[p]? = _ := fun o => (set_ne h1).trans hp
    have s3 : ∀ o, (H.set a o)[q]? = _ := fun o => (set_ne h2).trans hq
    have rp : ∀ H, pcx (cbL tab) 200 [.int .u64 v.b, .int .i64 13] H = _ := fun H => rot_px (n := 13) hv.2.1 (by decide) H
    have ro := rotM_ok (n := 13) hv.2.1
    have ao := add64_ok v.a v.b
    have xx : ∀ {xo yo : X} {ek : EqK}, binV .xor ek xo yo (.int .u64 (rotM v.b 13)) (.int .u64 (add64 v.a v.b)) = _ := fun {xo yo ek} => u64_xor ro.1 ro.2 ao.1 ao.2
    have t0 : Int.toNat 0 = 0 := rfl
    have t1 : Int.toNat 1 = 1 := rfl
    have t2 : Int.toNat 2 = 2 := rfl
    have t3 : Int.toNat 3 = 3 := rfl
    have t4 : Int.toNat 4 = 4 := rfl
    simp (disch := omega) only [wk, avalE, aactE, evPE, boundE, asNat, bv_seql cellsEq_ii, bv_sneqd cellsEq_ii, readC, allOne, fillL, resE, tupled, ↓reduceIte, Nat.reduceEqDiff, Int.reduceEq, Int.reduceLT, Int.reduceLE, Nat.reduceAdd, Nat.reduceMul, Nat.reduceLT, Nat.reduceLeDiff, reduceCtorEq, ha, hp, hq, s1, s2, s3, rp, xx, bv_add, wrap_add, t0, t1, t2, t3, t4, List.set_set]
  obtain ⟨o, H', h, rfl, rfl⟩ := key
  exact h
theorem half23_ic {H : Heap} {a p q : Nat} {v : V4} {rest : List AV} (hv : v.ok) (ha : H[a]? = some (.cells (vA v rest))) (hp : H[p]? = some (.cells [.ptr a 0])) (hq : H[q]? = some (.cells turnsA)) (h1 : a ≠ p) (h2 : a ≠ q) :
    (cbL tab).ic 199 [.int .i64 2, .int .i64 3, .int .i64 2, .ptr p 0, .ptr q 0] H = some (.ret (.tup []), H.set a (.cells (vA { v with c := add64 v.c v.d, d := xorI (rotM v.d 16) (add64 v.c v.d) } rest))) := by
  have key : ∃ o H', (cbL tab).ic 199 [.int .i64 2, .int .i64 3, .int .i64 2, .ptr p 0, .ptr q 0] H = some (o, H') ∧ o = .ret (.tup []) ∧ H' = H.set a (.cells (vA { v with c := add64 v.c v.d, d := xorI (rotM v.d 16) (add64 v.c v.d) } rest)) := by
    refine ic_wp (fi := c199) rfl rfl (by simp [c199]) (by decide) ?_
    unfold c199
    unfold vA turnsA at *
    have s1 : ∀ o, (H.set a o)[a]? = some o := fun o => set_eq ha
    have s2 : ∀ o, (H.set a o)[p]? = _ := fun o => (set_ne h1).trans hp
    have s3 : ∀ o, (H.set a o)[q]? = _ := fun o => (set_ne h2).trans hq
    have rp : ∀ H, pcx (cbL tab) 200 [.int .u64 v.d, .int .i64 16] H = _ := fun H => rot_px (n := 16) hv.2.2.2 (by decide) H
    have ro := rotM_ok (n := 16) hv.2.2.2
    have ao := add64_ok v.c v.d
    have xx : ∀ {xo yo : X} {ek : EqK}, binV .xor ek xo yo (.int .u64 (rotM v.d 16)) (.int .u64 (add64 v.c v.d)) = _ := fun {xo yo ek} => u64_xor ro.1 ro.2 ao.1 ao.2
    have t0 : Int.toNat 0 = 0 := rfl
    have t1 : Int.toNat 1 = 1 := rfl
    have t2 : Int.toNat 2 = 2 := rfl
    have t3 : Int.toNat 3 = 3 := rfl
    have t4 : Int.toNat 4 = 4 := rfl
    simp (disch := omega) only [wk, avalE, aactE, evPE, boundE, asNat, bv_seql cellsEq_ii, bv_sneqd cellsEq_ii, readC, allOne, fillL, resE, tupled, ↓reduceIte, Nat.reduceEqDiff, Int.reduceEq, Int.reduceLT, Int.reduceLE, Nat.reduceAdd, Nat.reduceMul, Nat.reduceLT, Nat.reduceLeDiff, reduceCtorEq, ha, hp, hq, s1, s2, s3, rp, xx, bv_add, wrap_add, t0, t1, t2, t3, t4, List.set_set]
  obtain ⟨o, H', h, rfl, rfl⟩ := key
  exact h
theorem half03_ic {H : Heap} {a p q : Nat} {v : V4} {rest : List AV} (hv : v.ok) (ha : H[a]? = some (.cells (vA v rest))) (hp : H[p]? = some (.cells [.ptr a 0])) (hq : H[q]? = some (.cells turnsA)) (h1 : a ≠ p) (h2 : a ≠ q) :
    (cbL tab).ic 199 [.int .i64 0, .int .i64 3, .int .i64 3, .ptr p 0, .ptr q 0] H = some (.ret (.tup []), H.set a (.cells (vA { v with a := add64 v.a v.d, d := xorI (rotM v.d 21) (add64 v.a v.d) } rest))) := by
  have key : ∃ o H', (cbL tab).ic 199 [.int .i64 0, .int .i64 3, .int .i64 3, .ptr p 0, .ptr q 0] H = some (o, H') ∧ o = .ret (.tup []) ∧ H' = H.set a (.cells (vA { v with a := add64 v.a v.d, d := xorI (rotM v.d 21) (add64 v.a v.d) } rest)) := by
    refine ic_wp (fi := c199) rfl rfl (by simp [c199]) (by decide) ?_
    unfold c199
    unfold vA turnsA at *
    have s1 : ∀ o, (H.set a o)[a]? = some o := fun o => set_eq ha
    have s2 : ∀ o, (H.set a o)[p]? = _ := fun o => (set_ne h1).trans hp
    have s3 : ∀ o, (H.set a o)[q]? = _ := fun o => (set_ne h2).trans hq
    have rp : ∀ H, pcx (cbL tab) 200 [.int .u64 v.d, .int .i64 21] H = _ := fun H => rot_px (n := 21) hv.2.2.2 (by decide) H
    have ro := rotM_ok (n := 21) hv.2.2.2
    have ao := add64_ok v.a v.d
    have xx : ∀ {xo yo : X} {ek : EqK}, binV .xor ek xo yo (.int .u64 (rotM v.d 21)) (.int .u64 (add64 v.a v.d)) = _ := fun {xo yo ek} => u64_xor ro.1 ro.2 ao.1 ao.2
    have t0 : Int.toNat 0 = 0 := rfl
    have t1 : Int.toNat 1 = 1 := rfl
    have t2 : Int.toNat 2 = 2 := rfl
    have t3 : Int.toNat 3 = 3 := rfl
    have t4 : Int.toNat 4 = 4 := rfl
    simp (disch := omega) only [wk, avalE, aactE, evPE, boundE, asNat, bv_seql cellsEq_ii, bv_sneqd cellsEq_ii, readC, allOne, fillL, resE, tupled, ↓reduceIte, Nat.reduceEqDiff, Int.reduceEq, Int.reduceLT, Int.reduceLE, Nat.reduceAdd, Nat.reduceMul, Nat.reduceLT, Nat.reduceLeDiff, reduceCtorEq, ha, hp, hq, s1, s2, s3, rp, xx, bv_add, wrap_add, t0, t1, t2, t3, t4, List.set_set]
  obtain ⟨o, H', h, rfl, rfl⟩ := key
  exact h
theorem half21_ic {H : Heap} {a p q : Nat} {v : V4} {rest : List AV} (hv : v.ok) (ha : H[a]? = some (.cells (vA v rest))) (hp : H[p]? = some (.cells [.ptr a 0])) (hq : H[q]? = some (.cells turnsA)) (h1 : a ≠ p) (h2 : a ≠ q) :
    (cbL tab).ic 199 [.int .i64 2, .int .i64 1, .int .i64 4, .ptr p 0, .ptr q 0] H = some (.ret (.tup []), H.set a (.cells (vA { v with c := add64 v.c v.b, b := xorI (rotM v.b 17) (add64 v.c v.b) } rest))) := by
  have key : ∃ o H', (cbL tab).ic 199 [.int .i64 2, .int .i64 1, .int .i64 4, .ptr p 0, .ptr q 0] H = some (o, H') ∧ o = .ret (.tup []) ∧ H' = H.set a (.cells (vA { v with c := add64 v.c v.b, b := xorI (rotM v.b 17) (add64 v.c v.b) } rest)) := by
    refine ic_wp (fi := c199) rfl rfl (by simp [c199]) (by decide) ?_
    unfold c199
    unfold vA turnsA at *
    have s1 : ∀ o, (H.set a o)[a]? = some o := fun o => set_eq ha
    have s2 : ∀ o, (H.set a o)[p]? = _ := fun o => (set_ne h1).trans hp
    have s3 : ∀ o, (H.set a o)[q]? = _ := fun o => (set_ne h2).trans hq
    have rp : ∀ H, pcx (cbL tab) 200 [.int .u64 v.b, .int .i64 17] H = _ := fun H => rot_px (n := 17) hv.2.1 (by decide) H
    have ro := rotM_ok (n := 17) hv.2.1
    have ao := add64_ok v.c v.b
    have xx : ∀ {xo yo : X} {ek : EqK}, binV .xor ek xo yo (.int .u64 (rotM v.b 17)) (.int .u64 (add64 v.c v.b)) = _ := fun {xo yo ek} => u64_xor ro.1 ro.2 ao.1 ao.2
    have t0 : Int.toNat 0 = 0 := rfl
    have t1 : Int.toNat 1 = 1 := rfl
    have t2 : Int.toNat 2 = 2 := rfl
    have t3 : Int.toNat 3 = 3 := rfl
    have t4 : Int.toNat 4 = 4 := rfl
    simp (disch := omega) only [wk, avalE, aactE, evPE, boundE, asNat, bv_seql cellsEq_ii, bv_sneqd cellsEq_ii, readC, allOne, fillL, resE, tupled, ↓reduceIte, Nat.reduceEqDiff, Int.reduceEq, Int.reduceLT, Int.reduceLE, Nat.reduceAdd, Nat.reduceMul, Nat.reduceLT, Nat.reduceLeDiff, reduceCtorEq, ha, hp, hq, s1, s2, s3, rp, xx, bv_add, wrap_add, t0, t1, t2, t3, t4, List.set_set]
  obtain ⟨o, H', h, rfl, rfl⟩ := key
  exact h
end Go.Proofs.Ytailfegmnkldoaa
