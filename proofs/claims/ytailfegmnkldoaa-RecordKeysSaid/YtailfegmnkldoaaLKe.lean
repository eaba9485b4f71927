/- THE LAW RecordKeys COMES TO true. No condition but those stated. -/
import Derived.Test.YtailfegmnkldoaaKJ
import Derived.Test.YtailfegmnkldoaaAmOpen
set_option linter.unusedSimpArgs false
set_option linter.unusedVariables false
set_option linter.unusedSectionVars false
namespace Go.Proofs.Ytailfegmnkldoaa
open Go Go.Am Go.Rec
set_option maxHeartbeats 4000000
set_option maxRecDepth 10000
theorem recordKeys_pc {l : List AV} {x1 x2 x3 : AV} (h0 : OkL [.int .i64, .int .i64, .int .i64, .int .i64, .int .u64, .int .u64, .int .i64, .int .i64, .int .i64, .int .i64] l) (h1 : OkS .str x1) (h2 : OkS (.int .i64) x2) (h3 : OkS (.int .u64) x3) :
    (cbL tab).pc 8 [.agg l, x1, x2, x3] = some (.plain (.bool true)) := by
  have em : IntKind.u64.min = 0 := rfl
  have ex : IntKind.u64.max = 18446744073709551615 := by decide
  obtain ⟨f, k0, k1, c, d, e, g, rfl, hk0, hk1⟩ : ∃ (f : Frm) (k0 k1 c d e g : Int), l = lyA f k0 k1 c d e g ∧ U64 k0 ∧ U64 k1 := by
    obtain ⟨hl, h⟩ := h0
    match l, hl with
    | [a0, a1, a2, a3, a4, a5, a6, a7, a8, a9], _ =>
      have o0 := h 0 _ _ rfl rfl
      have o1 := h 1 _ _ rfl rfl
      have o2 := h 2 _ _ rfl rfl
      have o3 := h 3 _ _ rfl rfl
      have o4 := h 4 _ _ rfl rfl
      have o5 := h 5 _ _ rfl rfl
      have o6 := h 6 _ _ rfl rfl
      have o7 := h 7 _ _ rfl rfl
      have o8 := h 8 _ _ rfl rfl
      have o9 := h 9 _ _ rfl rfl
      cases o0 with | int _ n0 _ _ =>
      cases o1 with | int _ n1 _ _ =>
      cases o2 with | int _ n2 _ _ =>
      cases o3 with | int _ n3 _ _ =>
      cases o4 with | int _ n4 p4 q4 =>
      cases o5 with | int _ n5 p5 q5 =>
      cases o6 with | int _ n6 _ _ =>
      cases o7 with | int _ n7 _ _ =>
      cases o8 with | int _ n8 _ _ =>
      cases o9 with | int _ n9 _ _ =>
      rw [em] at p4 p5
      rw [ex] at q4 q5
      exact ⟨⟨n0, n1, n2, n3⟩, n4, n5, n6, n7, n8, n9, rfl, ⟨p4, by omega⟩, ⟨p5, by omega⟩⟩
  cases h1 with | str s _ =>
  cases h2 with | int _ n _ _ =>
  cases h3 with | int _ k p q =>
  rw [em] at p
  rw [ex] at q
  have hk : U64 k := ⟨p, by omega⟩
  have el : lend (.agg (lyA f k0 k1 c d e g)) = .agg (lyA f k0 k1 c d e g) := rfl
  refine pc_wp (fi := c8) rfl rfl (by simp [c8]) (by decide) ?_
  unfold c8
  rw [List.map_cons, List.map_cons, List.map_cons, List.map_cons, List.map_nil, el, lend_str, lend_int, lend_int]
  by_cases hs : 300 < s.size
  · have hs' : (300 : Int) < (s.size : Nat) := by omega
    unfold lyA frmA
    simp only [List.cons_append, List.nil_append]
    simp (disch := omega) only [wk, avalE, aactE, evPE, boundE, asNat, bv_seql cellsEq_ii, bv_sneqd cellsEq_ii, readC, allOne, fillL, resE, tupled, ↓reduceIte, Nat.reduceEqDiff, Int.reduceEq, Int.reduceLT, Int.reduceLE, Nat.reduceAdd, Nat.reduceMul, Nat.reduceLT, Nat.reduceLeDiff, reduceCtorEq, hs', works_px, runG_un, purify, unownT, lend, unown, AV.hf, hfL]
  have hs' : ¬ (300 : Int) < (s.size : Nat) := by omega
  have sp := fun H => rsplit_px hk H
  have kd := hk.1
  have wr : IntKind.i64.wrap (k % 65536) = k % 65536 := wrap_i64 (by omega) (by omega)
  by_cases hl : okL f c d e g
  case neg =>
    have a1 := fun H => rsum_no hl k0 k1 s H
    have a2 := fun H => rkey_no hl k0 k1 s n H
    have a3 := fun H => rrsum_no hl k0 k1 s H
    have a4 := fun H => rrkey_no hl k0 k1 s n H
    clear hl
    unfold lyA frmA at *
    simp only [List.cons_append, List.nil_append] at a1 a2 a3 a4 ⊢
    simp (disch := omega) only [wk, avalE, aactE, evPE, boundE, asNat, bv_seql cellsEq_ii, bv_sneqd cellsEq_ii, readC, allOne, fillL, resE, tupled, ↓reduceIte, Nat.reduceEqDiff, Int.reduceEq, Int.reduceLT, Int.reduceLE, Nat.reduceAdd, Nat.reduceMul, Nat.reduceLT, Nat.reduceLeDiff, reduceCtorEq, hs', a1, a2, a3, a4, sp, wr, num_px, works_px, runG_un, purify, unownT, lend, unown, AV.hf, hfL]
  rw [ly_ok hl]
  obtain ⟨hf, _⟩ := hl
  have a1 := fun H => rsum_px hf hk0 hk1 s (by omega) H
  have a2 := fun H => rkey_px hf hk0 hk1 s (by omega) n H
  have a3 := fun H => rrsum_px hf hk0 hk1 s (by omega) H
  have a4 := fun H => rrkey_px hf hk0 hk1 s (by omega) n H
  generalize (if nameM s = 0 then ((partM k0 k1 s.data.toList f.t.toNat : Nat) : Int) else 0) = w1 at *
  generalize (if 0 ≤ n ∧ n ≤ 65535 then (if nameM s = 0 then ((partM k0 k1 s.data.toList f.t.toNat : Nat) : Int) * 65536 + n else 0) else 0) = w2 at *
  generalize (if 0 ≤ n ∧ n ≤ 65535 then nameM s else 2) = w3 at *
  generalize nameM s = w4 at *
  clear hf
  unfold layA frmA at *
  simp only [List.cons_append, List.nil_append] at a1 a2 a3 a4 ⊢
  simp (disch := omega) only [wk, avalE, aactE, evPE, boundE, asNat, bv_seql cellsEq_ii, bv_sneqd cellsEq_ii, readC, allOne, fillL, resE, tupled, ↓reduceIte, Nat.reduceEqDiff, Int.reduceEq, Int.reduceLT, Int.reduceLE, Nat.reduceAdd, Nat.reduceMul, Nat.reduceLT, Nat.reduceLeDiff, reduceCtorEq, hs', a1, a2, a3, a4, sp, wr, num_px, works_px, runG_un, purify, unownT, lend, unown, AV.hf, hfL]
end Go.Proofs.Ytailfegmnkldoaa
