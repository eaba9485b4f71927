/- THE LAW WalkGoes COMES TO true. No condition but those stated. -/
import Derived.Test.YtmogflndepihnaaDoorXB
set_option linter.unusedSimpArgs false
set_option linter.unusedVariables false
set_option linter.unusedSectionVars false
namespace Go.Proofs.YtmogflndepihnaaDoor
open Go Go.Am Go.Nam Go.Wlk Go.Rec
set_option maxHeartbeats 4000000
set_option maxRecDepth 10000
theorem ba_self (c : ByteArray) : (c == c) = true := by
  first
    | exact beq_self_eq_true c.data
    | exact decide_eq_true rfl
    | (cases c; simp [BEq.beq])
theorem wd_eql {xo yo : X} {a b d e : Int} {c : ByteArray} : binV .eql (.struct [0, 0, 2, 0, 0]) xo yo (.agg [.int .i64 a, .int .i64 b, .str c, .int .i64 d, .int .i64 e]) (.agg [.int .i64 a, .int .i64 b, .str c, .int .i64 d, .int .i64 e]) = some (.bool true) := by
  have ke : ∀ a : Int, cellEq 0 (.int .i64 a) (.int .i64 a) = some true := cellEq_self
  have ks : cellEq 2 (.str c) (.str c) = some true := by show some (c == c) = _; rw [ba_self]
  show (cellsEq _ _ _).map _ = _
  simp only [cellsEq, ke, ks]
  rfl
theorem few_of {l : List Pl} (h : fewB l = true) : Few l := by
  unfold fewB at h
  rw [Bool.and_eq_true] at h
  intro x hx
  exact of_decide_eq_true (List.all_eq_true.1 h.2 x hx)
theorem walkGoes_pc {x0 x1 x2 : AV} (h0 : OkS .str x0) (h1 : OkS .bool x1) (h2 : OkS (.slice [.int .i64, .str, .int .i64, .int .i64, .str]) x2) : (cbL tab).pc 11 [x0, x1, x2] = some (.plain (.bool true)) := by
  cases h0 with
  | str s hs =>
  have hb := bs_eta s
  generalize s.data.toList = p at hb
  subst hb
  cases h1 with
  | bool fol =>
  obtain ⟨l, tk, rfl, hlen, htk⟩ := ok_places h2
  obtain ⟨u1, e1, f1⟩ := lend_sl 5 l.length (encs placeA l) tk
  refine pc_wp (fi := c11) rfl ?_ (by simp [c11]) (by decide) ?_
  · simp only [pcOn, List.map_cons, List.map_nil, hfL, hf_lend_sl, hf_lend_int, hf_lend_bool, hf_lend_str, hfL_append, Bool.and_self, Bool.and_true, Bool.true_and, c11, hf_placeA]
  unfold c11
  rw [List.map_cons, List.map_cons, List.map_cons, List.map_nil, e1, lend_str, lend_bool]
  by_cases hp : 1100 < p.length
  · have h' : (1100 : Int) < (p.length : Nat) := by omega
    simp (disch := omega) only [wk, avalE, aactE, evPE, boundE, asNat, bv_seql cellsEq_ii, bv_sneqd cellsEq_ii, readC, allOne, fillL, resE, tupled, ↓reduceIte, Nat.reduceEqDiff, Int.reduceEq, Int.reduceLT, Int.reduceLE, Nat.reduceAdd, Nat.reduceMul, Nat.reduceLT, Nat.reduceLeDiff, reduceCtorEq, bs_size, h', works17_px, purify, unownT, AV.hf]
  have hp1 : ¬ (1100 : Int) < (p.length : Nat) := by omega
  have fw := fun H => few17_px l u1 f1 hlen H
  cases hfew : fewB l with
  | false =>
    rw [hfew] at fw
    simp (disch := omega) only [wk, avalE, aactE, evPE, boundE, asNat, bv_seql cellsEq_ii, bv_sneqd cellsEq_ii, readC, allOne, fillL, resE, tupled, ↓reduceIte, Nat.reduceEqDiff, Int.reduceEq, Int.reduceLT, Int.reduceLE, Nat.reduceAdd, Nat.reduceMul, Nat.reduceLT, Nat.reduceLeDiff, reduceCtorEq, bs_size, hp1, fw, works17_px, purify, unownT, AV.hf]
  | true =>
  rw [hfew] at fw
  have hf := few_of hfew
  have hl60 : l.length ≤ 60 := by
    unfold fewB at hfew
    rw [Bool.and_eq_true] at hfew
    exact of_decide_eq_true hfew.1
  have hp2 : p.length ≤ 1100 := by omega
  have sm : Few ([] : List Pl) := fun x hx => by cases hx
  by_cases ep : partsE p = 0
  case neg =>
    have t1 := fun H => goesL_no (l := l) (by omega) 5 u1 hp2 fol ep H
    have t2 := fun H => rgo_no (l := l) (by omega) 5 u1 hp2 fol ep H
    have t3 := fun H => wgo_no hp2 fol ep (.fn 43 []) rfl rfl H
    have t4 : ∀ H, pcx (cbL tab) 41 [.str (bs p), .bool fol, .sl 5 4 (encs placeA smallL) .ro] H = _ := fun H => rgo_no (l := smallL) (by decide) 5 .ro hp2 fol ep H
    have t5 := fun H => wgo_no hp2 fol ep .nilf rfl rfl H
    have t6 : ∀ H, pcx (cbL tab) 41 [.str (bs p), .bool fol, .sl 0 0 [] .z] H = _ := fun H => rgo_no (l := []) (by decide) 0 .z hp2 fol ep H
    unfold Wd.cells at t1 t2 t3 t4 t5 t6
    simp (disch := omega) only [wk, avalE, aactE, evPE, boundE, asNat, bv_seql cellsEq_ii, bv_sneqd cellsEq_ii, readC, allOne, fillL, resE, tupled, ↓reduceIte, Nat.reduceEqDiff, Int.reduceEq, Int.reduceLT, Int.reduceLE, Nat.reduceAdd, Nat.reduceMul, Nat.reduceLT, Nat.reduceLeDiff, reduceCtorEq, bs_size, hp1, fw, t1, t2, t3, t4, t5, t6, small_px, num17_px, wd_eql, works17_px, kemp, purify, unownT, AV.hf]
  obtain ⟨x1, g1⟩ := goes_ex hf _ _ (newM_live ep fol)
  obtain ⟨x2, g2⟩ := goes_ex small_few _ _ (newM_live ep fol)
  obtain ⟨x3, g3⟩ := goes_ex sm _ _ (newM_live ep fol)
  have t1 := fun H => goesL_px hf (by omega) 5 (fun _ => rfl) u1 hp2 fol ep g1 H
  have t2 := fun H => rgo_px hf (by omega) 5 (fun _ => rfl) u1 hp2 fol ep g1 H
  have t3 := fun H => wgo_fn small_few told_px hp2 fol ep g2 H
  have t4 : ∀ H, pcx (cbL tab) 41 [.str (bs p), .bool fol, .sl 5 4 (encs placeA smallL) .ro] H = _ := fun H => rgo_px small_few (by decide) 5 (fun _ => rfl) .ro hp2 fol ep g2 H
  have t5 := fun H => wgo_nil hp2 fol ep g3 H
  have t6 : ∀ H, pcx (cbL tab) 41 [.str (bs p), .bool fol, .sl 0 0 [] .z] H = _ := fun H => rgo_px sm (by decide) 0 (fun h => absurd rfl h) .z hp2 fol ep g3 H
  unfold Wd.cells at t1 t2 t3 t4 t5 t6
  clear g1 g2 g3 hf hfew sm
  simp (disch := omega) only [wk, avalE, aactE, evPE, boundE, asNat, bv_seql cellsEq_ii, bv_sneqd cellsEq_ii, readC, allOne, fillL, resE, tupled, ↓reduceIte, Nat.reduceEqDiff, Int.reduceEq, Int.reduceLT, Int.reduceLE, Nat.reduceAdd, Nat.reduceMul, Nat.reduceLT, Nat.reduceLeDiff, reduceCtorEq, bs_size, hp1, fw, t1, t2, t3, t4, t5, t6, small_px, num17_px, wd_eql, works17_px, kemp, purify, unownT, AV.hf]
end Go.Proofs.YtmogflndepihnaaDoor
