/- THE LAW RecordOrders COMES TO true. No condition but those stated. -/
import Derived.Test.YtailfegmnkldoaaKF
import Derived.Test.YtailfegmnkldoaaAmOpen
set_option linter.unusedSimpArgs false
set_option linter.unusedVariables false
set_option linter.unusedSectionVars false
namespace Go.Proofs.Ytailfegmnkldoaa
open Go Go.Am Go.Rec
set_option maxHeartbeats 4000000
set_option maxRecDepth 10000
theorem recordOrders_pc {f : List AV} {ks : List AV} {x2 x3 x4 x5 : AV} (h0 : OkL [.int .i64, .int .i64, .int .i64, .int .i64] f) (h1 : OkL [.int .u64, .int .u64] ks) (h2 : OkS .str x2) (h3 : OkS .str x3) (h4 : OkS (.int .i64) x4) (h5 : OkS (.int .i64) x5) :
    (cbL tab).pc 9 [.agg f, .agg ks, x2, x3, x4, x5] = some (.plain (.bool true)) := by
  obtain ⟨fr, rfl⟩ : ∃ fr : Frm, f = frmA fr := by
    obtain ⟨hl, h⟩ := h0
    match f, hl with
    | [a, b, c, d], _ =>
      have o0 := h 0 _ _ rfl rfl
      have o1 := h 1 _ _ rfl rfl
      have o2 := h 2 _ _ rfl rfl
      have o3 := h 3 _ _ rfl rfl
      cases o0 with | int _ n0 _ _ =>
      cases o1 with | int _ n1 _ _ =>
      cases o2 with | int _ n2 _ _ =>
      cases o3 with | int _ n3 _ _ =>
      exact ⟨⟨n0, n1, n2, n3⟩, rfl⟩
  obtain ⟨k0, k1, rfl, hk0, hk1⟩ : ∃ k0 k1 : Int, ks = [.int .u64 k0, .int .u64 k1] ∧ U64 k0 ∧ U64 k1 := by
    obtain ⟨hl, h⟩ := h1
    match ks, hl with
    | [a, b], _ =>
      have o0 := h 0 _ _ rfl rfl
      have o1 := h 1 _ _ rfl rfl
      cases o0 with | int _ n0 a0 b0 =>
      cases o1 with | int _ n1 a1 b1 =>
      have e1 : IntKind.u64.min = 0 := rfl
      have e2 : IntKind.u64.max = 18446744073709551615 := by decide
      rw [e1] at a0 a1
      rw [e2] at b0 b1
      exact ⟨n0, n1, rfl, ⟨a0, by omega⟩, ⟨a1, by omega⟩⟩
  cases h2 with | str a _ =>
  cases h3 with | str b _ =>
  cases h4 with | int _ m _ _ =>
  cases h5 with | int _ n _ _ =>
  have ef : lend (.agg (frmA fr)) = .agg (frmA fr) := rfl
  have ek : lend (.agg [.int .u64 k0, .int .u64 k1]) = .agg [.int .u64 k0, .int .u64 k1] := rfl
  refine pc_wp (fi := c9) rfl rfl (by simp [c9]) (by decide) ?_
  unfold c9
  rw [List.map_cons, List.map_cons, List.map_cons, List.map_cons, List.map_cons, List.map_cons, List.map_nil, ef, ek, lend_str, lend_str, lend_int, lend_int]
  have ro := fun H => rof_px fr k0 k1 H
  by_cases hf : okF fr
  case neg =>
    rw [if_neg hf] at ro
    unfold frmA lay0 at *
    simp (disch := omega) only [wk, avalE, aactE, evPE, boundE, asNat, bv_seql cellsEq_ii, bv_sneqd cellsEq_ii, readC, allOne, fillL, resE, tupled, ↓reduceIte, Nat.reduceEqDiff, Int.reduceEq, Int.reduceLT, Int.reduceLE, Nat.reduceAdd, Nat.reduceMul, Nat.reduceLT, Nat.reduceLeDiff, reduceCtorEq, ro, works_px, runG_un, purify, unownT, lend, unown, AV.hf, hfL]
  rw [if_pos hf] at ro
  by_cases ha : 200 < a.size
  · have ha' : (200 : Int) < (a.size : Nat) := by omega
    unfold layA frmA at *
    simp only [List.cons_append, List.nil_append] at ro
    simp (disch := omega) only [wk, avalE, aactE, evPE, boundE, asNat, bv_seql cellsEq_ii, bv_sneqd cellsEq_ii, readC, allOne, fillL, resE, tupled, ↓reduceIte, Nat.reduceEqDiff, Int.reduceEq, Int.reduceLT, Int.reduceLE, Nat.reduceAdd, Nat.reduceMul, Nat.reduceLT, Nat.reduceLeDiff, reduceCtorEq, ro, ha', works_px, runG_un, purify, unownT, lend, unown, AV.hf, hfL]
  have ha' : ¬ (200 : Int) < (a.size : Nat) := by omega
  by_cases hb : 200 < b.size
  · have hb' : (200 : Int) < (b.size : Nat) := by omega
    unfold layA frmA at *
    simp only [List.cons_append, List.nil_append] at ro
    simp (disch := omega) only [wk, avalE, aactE, evPE, boundE, asNat, bv_seql cellsEq_ii, bv_sneqd cellsEq_ii, readC, allOne, fillL, resE, tupled, ↓reduceIte, Nat.reduceEqDiff, Int.reduceEq, Int.reduceLT, Int.reduceLE, Nat.reduceAdd, Nat.reduceMul, Nat.reduceLT, Nat.reduceLeDiff, reduceCtorEq, ro, ha', hb', works_px, runG_un, purify, unownT, lend, unown, AV.hf, hfL]
  have hb' : ¬ (200 : Int) < (b.size : Nat) := by omega
  have ka := fun H => rkey_px hf hk0 hk1 a (by omega) m H
  have kb := fun H => rkey_px hf hk0 hk1 b (by omega) n H
  have sa := fun H => rsum_px hf hk0 hk1 a (by omega) H
  have sb := fun H => rsum_px hf hk0 hk1 b (by omega) H
  have pla := partM_lt hk0 hk1 a.data.toList (b := fr.t.toNat) (by have := hf.2.2.2.2.2.2.2.2.2.1; omega)
  have plb := partM_lt hk0 hk1 b.data.toList (b := fr.t.toNat) (by have := hf.2.2.2.2.2.2.2.2.2.1; omega)
  have pb : (2 : Nat) ^ fr.t.toNat ≤ 1099511627776 := (pows (b := fr.t.toNat) (by have := hf.2.2.2.2.2.2.2.2.2.1; omega)).2.2.2
  generalize partM k0 k1 a.data.toList fr.t.toNat = p at *
  generalize partM k0 k1 b.data.toList fr.t.toNat = q at *
  have hp : p < 1099511627776 := by omega
  have hq : q < 1099511627776 := by omega
  clear pla plb pb
  have nm : ∀ s, nameM s = 0 ∨ nameM s = 140 ∨ nameM s = 141 := fun s => by
    unfold nameM
    split
    · exact .inr (.inl rfl)
    · split
      · exact .inr (.inr rfl)
      · exact .inl rfl
  have nma := nm a
  have nmb := nm b
  clear nm
  unfold layA frmA at *
  simp only [List.cons_append, List.nil_append] at ro ka kb sa sb
  by_cases hm : 0 ≤ m ∧ m ≤ 65535
  case neg =>
    rw [if_neg hm, if_neg hm] at ka
    have hno : ∃ r t : Int, 0 ≤ t ∧ t ≤ 200 ∧ ∀ H, pcx (cbL tab) 40 [.agg [.int .i64 fr.b, .int .i64 fr.i, .int .i64 fr.r, .int .i64 fr.t, .int .u64 k0, .int .u64 k1, .int .i64 9, .int .i64 (9 + fr.i / 4), .int .i64 (9 + fr.i / 4 + fr.r / 4), .int .i64 (9 + fr.i / 4 + fr.r / 4 + 1)], .str b, .int .i64 n] H = some (.plain (.tup [.int .u64 r, .int .i64 t])) := ⟨_, _, by split <;> omega, by split <;> omega, kb⟩
    obtain ⟨r, t, t1, t2, kb'⟩ := hno
    have n2 : ¬ 2 + t = 0 := by omega
    simp (disch := omega) only [wk, avalE, aactE, evPE, boundE, asNat, bv_seql cellsEq_ii, bv_sneqd cellsEq_ii, readC, allOne, fillL, resE, tupled, ↓reduceIte, Nat.reduceEqDiff, Int.reduceEq, Int.reduceLT, Int.reduceLE, Nat.reduceAdd, Nat.reduceMul, Nat.reduceLT, Nat.reduceLeDiff, reduceCtorEq, ro, ha', hb', ka, kb', num_px, n2, works_px, runG_un, purify, unownT, lend, unown, AV.hf, hfL]
  rw [if_pos hm, if_pos hm] at ka
  by_cases hna : nameM a = 0
  case neg =>
    have hno : ∃ r t : Int, 0 ≤ t ∧ t ≤ 200 ∧ ∀ H, pcx (cbL tab) 40 [.agg [.int .i64 fr.b, .int .i64 fr.i, .int .i64 fr.r, .int .i64 fr.t, .int .u64 k0, .int .u64 k1, .int .i64 9, .int .i64 (9 + fr.i / 4), .int .i64 (9 + fr.i / 4 + fr.r / 4), .int .i64 (9 + fr.i / 4 + fr.r / 4 + 1)], .str b, .int .i64 n] H = some (.plain (.tup [.int .u64 r, .int .i64 t])) := ⟨_, _, by split <;> omega, by split <;> omega, kb⟩
    obtain ⟨r, t, t1, t2, kb'⟩ := hno
    rw [if_neg hna] at ka
    generalize nameM a = z at *
    have n2 : ¬ z + t = 0 := by omega
    simp (disch := omega) only [wk, avalE, aactE, evPE, boundE, asNat, bv_seql cellsEq_ii, bv_sneqd cellsEq_ii, readC, allOne, fillL, resE, tupled, ↓reduceIte, Nat.reduceEqDiff, Int.reduceEq, Int.reduceLT, Int.reduceLE, Nat.reduceAdd, Nat.reduceMul, Nat.reduceLT, Nat.reduceLeDiff, reduceCtorEq, ro, ha', hb', ka, kb', num_px, n2, works_px, runG_un, purify, unownT, lend, unown, AV.hf, hfL]
  rw [if_pos hna] at ka sa
  rw [hna] at ka sa
  by_cases hn : 0 ≤ n ∧ n ≤ 65535
  case neg =>
    rw [if_neg hn, if_neg hn] at kb
    simp (disch := omega) only [wk, avalE, aactE, evPE, boundE, asNat, bv_seql cellsEq_ii, bv_sneqd cellsEq_ii, readC, allOne, fillL, resE, tupled, ↓reduceIte, Nat.reduceEqDiff, Int.reduceEq, Int.reduceLT, Int.reduceLE, Nat.reduceAdd, Nat.reduceMul, Nat.reduceLT, Nat.reduceLeDiff, reduceCtorEq, ro, ha', hb', ka, kb, num_px, works_px, runG_un, purify, unownT, lend, unown, AV.hf, hfL]
  rw [if_pos hn, if_pos hn] at kb
  by_cases hnb : nameM b = 0
  case neg =>
    rw [if_neg hnb] at kb
    generalize nameM b = z at *
    have n2 : ¬ 0 + z = 0 := by omega
    simp (disch := omega) only [wk, avalE, aactE, evPE, boundE, asNat, bv_seql cellsEq_ii, bv_sneqd cellsEq_ii, readC, allOne, fillL, resE, tupled, ↓reduceIte, Nat.reduceEqDiff, Int.reduceEq, Int.reduceLT, Int.reduceLE, Nat.reduceAdd, Nat.reduceMul, Nat.reduceLT, Nat.reduceLeDiff, reduceCtorEq, ro, ha', hb', ka, kb, num_px, n2, works_px, runG_un, purify, unownT, lend, unown, AV.hf, hfL]
  rw [if_pos hnb] at kb sb
  rw [hnb] at kb sb
  have hx : U64 ((p : Int) * 65536 + m) := ⟨by omega, by omega⟩
  have sp := fun H => rsplit_px hx H
  have dv : ((p : Int) * 65536 + m) / 65536 = (p : Int) := by omega
  have md : ((p : Int) * 65536 + m) % 65536 = m := by omega
  rw [dv, md] at sp
  have tt : (true == true) = true := rfl
  have ff : (false == false) = true := rfl
  by_cases c1 : (p : Int) < (q : Int)
  · have xy : (p : Int) * 65536 + m < (q : Int) * 65536 + n := by omega
    simp (disch := omega) only [wk, avalE, aactE, evPE, boundE, asNat, bv_seql cellsEq_ii, bv_sneqd cellsEq_ii, readC, allOne, fillL, resE, tupled, ↓reduceIte, Nat.reduceEqDiff, Int.reduceEq, Int.reduceLT, Int.reduceLE, Nat.reduceAdd, Nat.reduceMul, Nat.reduceLT, Nat.reduceLeDiff, reduceCtorEq, ro, ha', hb', ka, kb, sa, sb, sp, num_px, c1, xy, tt, ff, works_px, runG_un, purify, unownT, lend, unown, AV.hf, hfL]
  by_cases c2 : (p : Int) = (q : Int)
  · obtain rfl : p = q := by omega
    clear c2
    by_cases c3 : m < n
    · have xy : (p : Int) * 65536 + m < (p : Int) * 65536 + n := by omega
      simp (disch := omega) only [wk, avalE, aactE, evPE, boundE, asNat, bv_seql cellsEq_ii, bv_sneqd cellsEq_ii, readC, allOne, fillL, resE, tupled, ↓reduceIte, Nat.reduceEqDiff, Int.reduceEq, Int.reduceLT, Int.reduceLE, Nat.reduceAdd, Nat.reduceMul, Nat.reduceLT, Nat.reduceLeDiff, reduceCtorEq, ro, ha', hb', ka, kb, sa, sb, sp, num_px, c1, c3, xy, tt, ff, works_px, runG_un, purify, unownT, lend, unown, AV.hf, hfL]
    · have xy : ¬ (p : Int) * 65536 + m < (p : Int) * 65536 + n := by omega
      simp (disch := omega) only [wk, avalE, aactE, evPE, boundE, asNat, bv_seql cellsEq_ii, bv_sneqd cellsEq_ii, readC, allOne, fillL, resE, tupled, ↓reduceIte, Nat.reduceEqDiff, Int.reduceEq, Int.reduceLT, Int.reduceLE, Nat.reduceAdd, Nat.reduceMul, Nat.reduceLT, Nat.reduceLeDiff, reduceCtorEq, ro, ha', hb', ka, kb, sa, sb, sp, num_px, c1, c3, xy, tt, ff, works_px, runG_un, purify, unownT, lend, unown, AV.hf, hfL]
  · have xy : ¬ (p : Int) * 65536 + m < (q : Int) * 65536 + n := by omega
    simp (disch := omega) only [wk, avalE, aactE, evPE, boundE, asNat, bv_seql cellsEq_ii, bv_sneqd cellsEq_ii, readC, allOne, fillL, resE, tupled, ↓reduceIte, Nat.reduceEqDiff, Int.reduceEq, Int.reduceLT, Int.reduceLE, Nat.reduceAdd, Nat.reduceMul, Nat.reduceLT, Nat.reduceLeDiff, reduceCtorEq, ro, ha', hb', ka, kb, sa, sb, sp, num_px, c1, c2, xy, tt, ff, works_px, runG_un, purify, unownT, lend, unown, AV.hf, hfL]
end Go.Proofs.Ytailfegmnkldoaa
