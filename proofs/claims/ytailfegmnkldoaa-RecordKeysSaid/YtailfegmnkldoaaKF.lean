/- A NAME'S SUM AND KEY. No condition but those stated. -/
import Derived.Test.YtailfegmnkldoaaKZ
import Derived.Test.YtailfegmnkldoaaKU
set_option linter.unusedSimpArgs false
set_option linter.unusedVariables false
set_option linter.unusedSectionVars false
namespace Go.Proofs.Ytailfegmnkldoaa
open Go Go.Am Go.Rec
set_option maxHeartbeats 4000000
set_option maxRecDepth 10000
theorem ncheck_px (s : ByteArray) (H : Heap) : pcx (cbL tab) 75 [.str s] H = some (.plain (.int .i64 (nameM s))) := by
  refine pcx_N rfl (pc_wp (fi := c75) rfl rfl (by simp [c75]) (by decide) ?_)
  unfold c75
  rw [List.map_cons, List.map_nil, lend_str]
  have a0 := fun H => asks_px H
  have a1 := fun H => ask1_px s H
  have a2 := fun H => ask2_px s H
  have i2 : ((2 : Nat) : Int) = 2 := rfl
  have i0 : (0 : Int).toNat = 0 := rfl
  have i1 : (1 : Int).toNat = 1 := rfl
  have ea : (0 : Int) + 1 = 1 := rfl
  have eb : (1 : Int) + 1 = 2 := rfl
  simp (disch := omega) only [wk, avalE, aactE, evPE, boundE, asNat, bv_seql cellsEq_ii, bv_sneqd cellsEq_ii, readC, allOne, fillL, resE, tupled, ↓reduceIte, Nat.reduceEqDiff, Int.reduceEq, Int.reduceLT, Int.reduceLE, Nat.reduceAdd, Nat.reduceMul, Nat.reduceLT, Nat.reduceLeDiff, reduceCtorEq, a0, i2]
  rw [ret_loop]
  unfold nameM
  by_cases h1 : (s.toList == []) = true ∨ dotsM s = true ∨ plainM s.data.toList = false
  · simp (disch := omega) only [wk, avalE, aactE, evPE, boundE, asNat, bv_seql cellsEq_ii, bv_sneqd cellsEq_ii, readC, allOne, fillL, resE, tupled, ↓reduceIte, Nat.reduceEqDiff, Int.reduceEq, Int.reduceLT, Int.reduceLE, Nat.reduceAdd, Nat.reduceMul, Nat.reduceLT, Nat.reduceLeDiff, reduceCtorEq, a1, i0, h1, purify, unownT, lend, AV.hf]
  · simp (disch := omega) only [wk, avalE, aactE, evPE, boundE, asNat, bv_seql cellsEq_ii, bv_sneqd cellsEq_ii, readC, allOne, fillL, resE, tupled, ↓reduceIte, Nat.reduceEqDiff, Int.reduceEq, Int.reduceLT, Int.reduceLE, Nat.reduceAdd, Nat.reduceMul, Nat.reduceLT, Nat.reduceLeDiff, reduceCtorEq, a1, i0, h1, ea]
    refine ret_again (by decide) (.inl rfl) ?_
    rw [ret_loop]
    by_cases h2 : 120 < s.size
    · simp (disch := omega) only [wk, avalE, aactE, evPE, boundE, asNat, bv_seql cellsEq_ii, bv_sneqd cellsEq_ii, readC, allOne, fillL, resE, tupled, ↓reduceIte, Nat.reduceEqDiff, Int.reduceEq, Int.reduceLT, Int.reduceLE, Nat.reduceAdd, Nat.reduceMul, Nat.reduceLT, Nat.reduceLeDiff, reduceCtorEq, a2, i0, i1, h1, h2, purify, unownT, lend, AV.hf, List.length_append]
    · simp (disch := omega) only [wk, avalE, aactE, evPE, boundE, asNat, bv_seql cellsEq_ii, bv_sneqd cellsEq_ii, readC, allOne, fillL, resE, tupled, ↓reduceIte, Nat.reduceEqDiff, Int.reduceEq, Int.reduceLT, Int.reduceLE, Nat.reduceAdd, Nat.reduceMul, Nat.reduceLT, Nat.reduceLeDiff, reduceCtorEq, a2, i0, i1, h1, h2, eb]
      refine ret_again (by decide) (.inl rfl) ?_
      rw [ret_loop]
      simp (disch := omega) only [wk, avalE, aactE, evPE, boundE, asNat, bv_seql cellsEq_ii, bv_sneqd cellsEq_ii, readC, allOne, fillL, resE, tupled, ↓reduceIte, Nat.reduceEqDiff, Int.reduceEq, Int.reduceLT, Int.reduceLE, Nat.reduceAdd, Nat.reduceMul, Nat.reduceLT, Nat.reduceLeDiff, reduceCtorEq, purify, unownT, lend, AV.hf]
theorem field_nat {w b : Nat} (hw : w < 18446744073709551616) (h2 : b ≤ 40) : (w &&& (2 ^ b - 1) * 2 ^ (64 - b)) / 2 ^ (64 - b) = w / 2 ^ (64 - b) ∧ w / 2 ^ (64 - b) < 2 ^ b := by
  obtain ⟨p1, p2, p3, p4⟩ := pows h2
  have hlt : w / 2 ^ (64 - b) < 2 ^ b := by
    rw [Nat.div_lt_iff_lt_mul (by omega), p1]
    exact hw
  refine ⟨?_, hlt⟩
  rw [Nat.and_div_two_pow, Nat.mul_div_cancel _ (by omega), Nat.and_two_pow_sub_one_eq_mod, Nat.mod_eq_of_lt hlt]
theorem field_px {w b : Nat} (hw : w < 18446744073709551616) (h1 : 1 ≤ b) (h2 : b ≤ 40) (H : Heap) : pcx (cbL tab) 81 [.int .u64 (w : Nat), .int .i64 (64 - (b : Int)), .int .i64 (b : Nat)] H = some (.plain (.tup [.int .u64 ((w / 2 ^ (64 - b) : Nat) : Int), .int .i64 0])) := by
  refine pcx_N rfl (pc_wp (fi := c81) rfl rfl (by simp [c81]) (by decide) ?_)
  unfold c81
  rw [List.map_cons, List.map_cons, List.map_cons, List.map_nil, lend_int, lend_int, lend_int]
  have tp := fun H => there_px h1 h2 H
  have mp := fun H => masked_px h1 h2 H
  obtain ⟨p1, p2, p3, p4⟩ := pows h2
  have hm : (2 ^ b - 1) * 2 ^ (64 - b) < 18446744073709551616 := by
    rw [← p1]
    exact Nat.mul_lt_mul_of_pos_right (by omega) (by omega)
  have op := fun H => of_px ((2 ^ b - 1) * 2 ^ (64 - b)) w hm hw H
  have fn := (field_nat (w := w) hw h2).1
  have ed : ((2 ^ (64 - b) : Nat) : Int) = (2 : Int) ^ (64 - b) := by simp
  have sr : ∀ {xo yo : X} {ek : EqK}, binV .shr ek xo yo (.int .u64 ((w &&& (2 ^ b - 1) * 2 ^ (64 - b) : Nat) : Int)) (.int .i64 (64 - (b : Int))) = some (.int .u64 ((w / 2 ^ (64 - b) : Nat) : Int)) := fun {xo yo ek} => by
    have := u64_shr (xo := xo) (yo := yo) (ek := ek) (a := ((w &&& (2 ^ b - 1) * 2 ^ (64 - b) : Nat) : Int)) (b := 64 - (b : Int)) (k := .i64) (by omega) (by omega)
    rw [this, show (64 - (b : Int)).toNat = 64 - b by omega, ← ed, ← Int.natCast_ediv, fn]
  generalize (2 ^ b - 1) * 2 ^ (64 - b) = Q at *
  generalize w / 2 ^ (64 - b) = R at *
  simp (disch := omega) only [wk, avalE, aactE, evPE, boundE, asNat, bv_seql cellsEq_ii, bv_sneqd cellsEq_ii, readC, allOne, fillL, resE, tupled, ↓reduceIte, Nat.reduceEqDiff, Int.reduceEq, Int.reduceLT, Int.reduceLE, Nat.reduceAdd, Nat.reduceMul, Nat.reduceLT, Nat.reduceLeDiff, reduceCtorEq, tp, mp, op, sr, purify, unownT, lend, unown, AV.hf, hfL]
def partM (k0 k1 : Int) (L : List UInt8) (b : Nat) : Nat := (hashM k0 k1 L).toNat / 2 ^ (64 - b)
theorem partM_lt {k0 k1 : Int} (h0 : U64 k0) (h1 : U64 k1) (L : List UInt8) {b : Nat} (h2 : b ≤ 40) : partM k0 k1 L b < 2 ^ b := by
  have ho := hashM_ok h0 h1 L
  exact (field_nat (w := (hashM k0 k1 L).toNat) (by have := ho.2; have := ho.1; omega) h2).2
theorem part_px {k0 k1 : Int} (h0 : U64 k0) (h1 : U64 k1) {L : List UInt8} (hne : L ≠ []) (hL : L.length ≤ 100000) {b : Nat} (hb1 : 1 ≤ b) (hb2 : b ≤ 40) (H : Heap) :
    pcx (cbL tab) 76 [.agg [.int .u64 k0, .int .u64 k1], .sl 1 L.length (encs byA L) .ro, .int .i64 (b : Nat)] H = some (.plain (.tup [.int .u64 (partM k0 k1 L b : Nat), .int .i64 0])) := by
  have hfb : hfL (encs byA L) = true := hfL_encs (fun _ => rfl) L
  have e2 : lend (.agg [.int .u64 k0, .int .u64 k1]) = .agg [.int .u64 k0, .int .u64 k1] := rfl
  refine pcx_N rfl (pc_wp (fi := c76) rfl ?_ (by simp [c76]) (by decide) ?_)
  · show hfL [lend _, lend _, lend _] = true
    rw [e2, lend_ro, lend_int]
    simp [hfL, AV.hf, hfb, Tk.hf]
  unfold c76
  rw [List.map_cons, List.map_cons, List.map_cons, List.map_nil, e2, lend_ro, lend_int]
  have hs := fun H => hsum_px h0 h1 hne hL .ro H
  have ho := hashM_ok h0 h1 L
  have fp : ∀ H, pcx (cbL tab) 81 [.int .u64 (hashM k0 k1 L), .int .i64 (64 - (b : Int)), .int .i64 (b : Nat)] H = some (.plain (.tup [.int .u64 (partM k0 k1 L b : Nat), .int .i64 0])) := fun H => by
    have := field_px (w := (hashM k0 k1 L).toNat) (by have := ho.2; have := ho.1; omega) hb1 hb2 H
    rwa [Int.toNat_of_nonneg ho.1] at this
  generalize partM k0 k1 L b = q at *
  generalize hashM k0 k1 L = r at *
  have m1 : (-(0 + 1) : Int) < 64 - (b : Int) := by omega
  simp (disch := omega) only [wk, avalE, aactE, evPE, boundE, asNat, bv_seql cellsEq_ii, bv_sneqd cellsEq_ii, readC, allOne, fillL, resE, tupled, ↓reduceIte, Nat.reduceEqDiff, Int.reduceEq, Int.reduceLT, Int.reduceLE, Nat.reduceAdd, Nat.reduceMul, Nat.reduceLT, Nat.reduceLeDiff, reduceCtorEq, hs, fp, m1, purify, unownT, lend, unown, AV.hf, hfL]
theorem nameM_ne {s : ByteArray} (h : nameM s = 0) : s.data.toList ≠ [] := by
  intro e
  unfold nameM at h
  rw [if_pos (.inl (by rw [ByteArray.toList_eq, e]; rfl))] at h
  cases h
theorem rsum_px {f : Frm} (hf : okF f) {k0 k1 : Int} (h0 : U64 k0) (h1 : U64 k1) (s : ByteArray) (hs : s.size ≤ 300) (H : Heap) :
    pcx (cbL tab) 39 [.agg (layA f k0 k1), .str s] H = some (.plain (.tup [.int .u64 (if nameM s = 0 then ((partM k0 k1 s.data.toList f.t.toNat : Nat) : Int) else 0), .int .i64 (nameM s)])) := by
  have e1 : lend (.agg (layA f k0 k1)) = .agg (layA f k0 k1) := rfl
  refine pcx_N rfl (pc_wp (fi := c39) rfl rfl (by simp [c39]) (by decide) ?_)
  unfold c39
  rw [List.map_cons, List.map_cons, List.map_nil, e1, lend_str]
  obtain ⟨sv, sp⟩ := super_px hf h0 h1
  have np := fun H => ncheck_px s H
  have hsz : s.data.toList.length = s.size := size_data s
  obtain ⟨q1, q2, q3, q4, q5, q6, q7, q8, q9, q10, q11⟩ := hf
  unfold layA frmA at sp ⊢
  simp only [List.cons_append, List.nil_append] at sp ⊢
  by_cases hn : nameM s = 0
  · rw [if_pos hn]
    rw [hn] at np ⊢
    have hne := nameM_ne hn
    obtain ⟨b, hb⟩ := Int.eq_ofNat_of_zero_le (show 0 ≤ f.t by omega)
    have pp := fun H => part_px h0 h1 hne (by omega) (b := b) (by omega) (by omega) H
    have eb : f.t.toNat = b := by omega
    rw [hsz, ← bytesA_encs, ← hb] at pp
    rw [eb]
    have cv : s.size ≤ 70368744177664 := by omega
    generalize partM k0 k1 s.data.toList b = q at *
    simp (disch := omega) only [wk, avalE, aactE, evPE, boundE, asNat, bv_seql cellsEq_ii, bv_sneqd cellsEq_ii, readC, allOne, fillL, resE, tupled, ↓reduceIte, Nat.reduceEqDiff, Int.reduceEq, Int.reduceLT, Int.reduceLE, Nat.reduceAdd, Nat.reduceMul, Nat.reduceLT, Nat.reduceLeDiff, reduceCtorEq, sp, np, pp, cv, purify, unownT, lend, unown, AV.hf, hfL]
  · rw [if_neg hn]
    simp (disch := omega) only [wk, avalE, aactE, evPE, boundE, asNat, bv_seql cellsEq_ii, bv_sneqd cellsEq_ii, readC, allOne, fillL, resE, tupled, ↓reduceIte, Nat.reduceEqDiff, Int.reduceEq, Int.reduceLT, Int.reduceLE, Nat.reduceAdd, Nat.reduceMul, Nat.reduceLT, Nat.reduceLeDiff, reduceCtorEq, sp, np, hn, purify, unownT, lend, unown, AV.hf, hfL]
theorem key_or {s n : Nat} (hn : n < 65536) (hs : s < 1099511627776) {xo yo : X} {ek : EqK} : binV .or ek xo yo (.int .u64 ((s : Int) * 65536)) (.int .u64 (n : Nat)) = some (.int .u64 ((s : Int) * 65536 + (n : Int))) := by
  have e2 : ((s * 65536 : Nat) : Int) = (s : Int) * 65536 := by omega
  have e3 : ((s * 65536 + n : Nat) : Int) = (s : Int) * 65536 + (n : Int) := by rw [Int.natCast_add, e2]
  have h := u64_or (xo := xo) (yo := yo) (ek := ek) (a := s * 65536) (b := n) (by omega) (by omega)
  have e : s * 65536 ||| n = s * 65536 + n := by
    have := Nat.shiftLeft_add_eq_or_of_lt (i := 16) (b := n) (by omega) s
    rw [Nat.shiftLeft_eq] at this
    exact this.symm
  rw [e] at h
  rw [e2, e3] at h
  exact h
theorem rkey_px {f : Frm} (hf : okF f) {k0 k1 : Int} (h0 : U64 k0) (h1 : U64 k1) (s : ByteArray) (hs : s.size ≤ 300) (n : Int) (H : Heap) :
    pcx (cbL tab) 40 [.agg (layA f k0 k1), .str s, .int .i64 n] H = some (.plain (.tup [.int .u64 (if 0 ≤ n ∧ n ≤ 65535 then (if nameM s = 0 then ((partM k0 k1 s.data.toList f.t.toNat : Nat) : Int) * 65536 + n else 0) else 0), .int .i64 (if 0 ≤ n ∧ n ≤ 65535 then nameM s else 2)])) := by
  have e1 : lend (.agg (layA f k0 k1)) = .agg (layA f k0 k1) := rfl
  refine pcx_N rfl (pc_wp (fi := c40) rfl rfl (by simp [c40]) (by decide) ?_)
  unfold c40
  rw [List.map_cons, List.map_cons, List.map_cons, List.map_nil, e1, lend_str, lend_int]
  have ip := fun H => in_px n 0 65535 H
  have sp := fun H => rsum_px hf h0 h1 s hs H
  have pl := partM_lt h0 h1 s.data.toList (b := f.t.toNat) (by have := hf.2.2.2.2.2.2.2.2.2.1; omega)
  have pb : (2 : Nat) ^ f.t.toNat ≤ 1099511627776 := (pows (b := f.t.toNat) (by have := hf.2.2.2.2.2.2.2.2.2.1; omega)).2.2.2
  generalize partM k0 k1 s.data.toList f.t.toNat = q at *
  have hq : q < 1099511627776 := by omega
  clear pl pb
  unfold layA frmA at sp ⊢
  simp only [List.cons_append, List.nil_append] at sp ⊢
  by_cases hn : 0 ≤ n ∧ n ≤ 65535
  · rw [if_pos hn, if_pos hn]
    rw [decide_eq_true hn] at ip
    by_cases hm : nameM s = 0
    · rw [if_pos hm] at sp ⊢
      rw [hm] at sp ⊢
      obtain ⟨n, rfl⟩ := Int.eq_ofNat_of_zero_le hn.1
      have sl : ∀ {xo yo : X} {ek : EqK}, binV .shl ek xo yo (.int .u64 (q : Nat)) (.int .u64 16) = some (.int .u64 ((q : Int) * 65536)) := fun {xo yo ek} => by
        have e16 : (2 : Int) ^ (Int.toNat 16) = 65536 := by simp [show Int.toNat 16 = 16 from rfl]
        have := u64_shl (xo := xo) (yo := yo) (ek := ek) (a := (q : Int)) (b := 16) (k := .u64) (by decide) (by decide) (by rw [e16]; omega) (by rw [e16]; omega)
        rwa [e16] at this
      have wn : IntKind.u64.wrap (n : Int) = (n : Int) := wrap_u64 (by omega) (by omega)
      have ko : ∀ {xo yo : X} {ek : EqK}, binV .or ek xo yo (.int .u64 ((q : Int) * 65536)) (.int .u64 (n : Nat)) = some (.int .u64 ((q : Int) * 65536 + (n : Int))) := fun {xo yo ek} => key_or (by omega) hq
      simp (disch := omega) only [wk, avalE, aactE, evPE, boundE, asNat, bv_seql cellsEq_ii, bv_sneqd cellsEq_ii, readC, allOne, fillL, resE, tupled, ↓reduceIte, Nat.reduceEqDiff, Int.reduceEq, Int.reduceLT, Int.reduceLE, Nat.reduceAdd, Nat.reduceMul, Nat.reduceLT, Nat.reduceLeDiff, reduceCtorEq, ip, sp, sl, wn, ko, purify, unownT, lend, unown, AV.hf, hfL]
    · rw [if_neg hm] at sp ⊢
      simp (disch := omega) only [wk, avalE, aactE, evPE, boundE, asNat, bv_seql cellsEq_ii, bv_sneqd cellsEq_ii, readC, allOne, fillL, resE, tupled, ↓reduceIte, Nat.reduceEqDiff, Int.reduceEq, Int.reduceLT, Int.reduceLE, Nat.reduceAdd, Nat.reduceMul, Nat.reduceLT, Nat.reduceLeDiff, reduceCtorEq, ip, sp, hm, purify, unownT, lend, unown, AV.hf, hfL]
  · rw [if_neg hn, if_neg hn]
    rw [decide_eq_false hn] at ip
    simp (disch := omega) only [wk, avalE, aactE, evPE, boundE, asNat, bv_seql cellsEq_ii, bv_sneqd cellsEq_ii, readC, allOne, fillL, resE, tupled, ↓reduceIte, Nat.reduceEqDiff, Int.reduceEq, Int.reduceLT, Int.reduceLE, Nat.reduceAdd, Nat.reduceMul, Nat.reduceLT, Nat.reduceLeDiff, reduceCtorEq, ip, purify, unownT, lend, unown, AV.hf, hfL]
theorem rsplit_px {k : Int} (hk : U64 k) (H : Heap) : pcx (cbL tab) 43 [.int .u64 k] H = some (.plain (.tup [.int .u64 (k / 65536), .int .i64 (k % 65536)])) := by
  refine pcx_N rfl (pc_wp (fi := c43) rfl rfl (by simp [c43]) (by decide) ?_)
  unfold c43
  rw [List.map_cons, List.map_nil, lend_int]
  have fp := fun H => field0_px k hk.1 hk.2 H
  have sr : ∀ {xo yo : X} {ek : EqK}, binV .shr ek xo yo (.int .u64 k) (.int .u64 16) = some (.int .u64 (k / 65536)) := fun {xo yo ek} => by
    have e16 : (2 : Int) ^ (Int.toNat 16) = 65536 := by simp [show Int.toNat 16 = 16 from rfl]
    have := u64_shr (xo := xo) (yo := yo) (ek := ek) (a := k) (b := 16) (k := .u64) (by decide) (by decide)
    rwa [e16] at this
  have wr : IntKind.i64.wrap (k % 65536) = k % 65536 := wrap_i64 (by have := Int.emod_nonneg k (show (65536 : Int) ≠ 0 by decide); omega) (by have := Int.emod_lt_of_pos k (show (0 : Int) < 65536 by decide); omega)
  simp (disch := omega) only [wk, avalE, aactE, evPE, boundE, asNat, bv_seql cellsEq_ii, bv_sneqd cellsEq_ii, readC, allOne, fillL, resE, tupled, ↓reduceIte, Nat.reduceEqDiff, Int.reduceEq, Int.reduceLT, Int.reduceLE, Nat.reduceAdd, Nat.reduceMul, Nat.reduceLT, Nat.reduceLeDiff, reduceCtorEq, fp, sr, wr, purify, unownT, lend, unown, AV.hf, hfL]
end Go.Proofs.Ytailfegmnkldoaa
