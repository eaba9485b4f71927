/- THE LAW NamesParts COMES TO true, JOINED. No condition but those stated. -/
import Derived.Test.YtmogflndepihnaaDoorLPa0
set_option linter.unusedSimpArgs false
set_option linter.unusedVariables false
set_option linter.unusedSectionVars false
namespace Go.Proofs.YtmogflndepihnaaDoor
open Go Go.Am Go.Rec Go.Nam
set_option maxHeartbeats 4000000
set_option maxRecDepth 10000
theorem fn_nil {xo yo : X} {f : FuncId} {c : List AV} : binV .eql .func xo yo (.fn f c) .nilf = some (.bool false) := rfl
theorem ends_mark2 {tab : FuncId → Option AFun} {res : List ARes} {P : Out → Heap → Prop} {E : Env} {H : Heap} {k l : Nat} (h : H[k]? = some .defd) (h2 : (H.set k .dead)[l]? = some .defd) : Am.Ends tab res P .ret E [.mark k, .mark l] H = Am.Ends tab res P .ret E [] ((H.set k .dead).set l .dead) := by
  simp only [Am.Ends, exMode, leaveA, h, h2]
theorem ret_blk_either {cb : CB} {n : Nat} {Q : KP} {ks : List Kt} {E : Env} {df : List ADf} {H : Heap} {id : Nat} {e : Ex} (h : e = .normal ∨ e = .exit id) : Ret cb none n Q (.blk id :: ks) e E df H = Ret cb none n Q ks .normal E df H := by
  rcases h with rfl | rfl
  · exact ret_blk_normal
  · rw [ret_blk_exit, if_pos rfl]
theorem pa_lo {H : Heap} {k : Nat} {lo : AObj} {tm : List AV} (h : lo = .loop 0 .normal tm [47, 48] paAs paBd ∨ lo = .loop 2 (.exit 2) tm [47, 48] paAs paBd) (hk : H[k]? = some lo) :
    ∃ st pend, st ≠ 1 ∧ pend.jumps = true ∧ (pend = .normal ∨ pend = .exit 2) ∧ readLoop H k = some (st, pend, tm, [47, 48], paAs, paBd) := by
  rcases h with rfl | rfl
  · exact ⟨0, .normal, by decide, rfl, .inl rfl, readLoop_of hk⟩
  · exact ⟨2, .exit 2, by decide, rfl, .inr rfl, readLoop_of hk⟩
theorem namesParts_pc {x y : AV} (h : OkS .str x) (h' : OkS (.int .i64) y) : (cbL tab).pc 4 [x, y] = some (.plain (.bool true)) := by
  cases h with
  | str s hs =>
  have hb := bs_eta s
  generalize s.data.toList = p at hb
  subst hb
  obtain ⟨many, rfl, hmin, hmax⟩ : ∃ n, y = .int .i64 n ∧ IntKind.min .i64 ≤ n ∧ n ≤ IntKind.max .i64 := by cases h' with | int _ _ h1 h2 => exact ⟨_, rfl, h1, h2⟩
  have hmin : -9223372036854775808 ≤ many := hmin
  have hmax : many ≤ 9223372036854775807 := hmax
  refine pc_wp (fi := c4) rfl rfl (by simp [c4]) (by decide) ?_
  unfold c4
  rw [List.map_cons, List.map_cons, List.map_nil, lend_str, lend_int]
  by_cases h : 2000 < p.length
  · have h' : (2000 : Int) < (p.length : Nat) := by omega
    simp (disch := omega) only [wk, avalE, aactE, evPE, boundE, asNat, bv_seql cellsEq_ii, bv_sneqd cellsEq_ii, readC, allOne, fillL, resE, tupled, ↓reduceIte, Nat.reduceEqDiff, Int.reduceEq, Int.reduceLT, Int.reduceLE, Nat.reduceAdd, Nat.reduceMul, Nat.reduceLT, Nat.reduceLeDiff, reduceCtorEq, bs_size, h', works_px, purify, unownT, AV.hf]
  have h1 : ¬ (2000 : Int) < (p.length : Nat) := by omega
  have pp := fun H => parts_px p (by omega) H
  have rp := fun H => rparts_px p (by omega) H
  have bp := partsM_small p
  obtain ⟨s1, t1, k1, k2, k3⟩ := rowV_form p
  obtain ⟨s2, t2, m1, m2, m3⟩ := slvR_form 1 strA (partsM p)
  have ei := fun H => each_ic p (by omega) H
  unfold partsV at pp
  unfold rpartsV at rp
  rw [k1] at pp ei
  rw [m1] at rp
  have sm := fun H => same_px (partsM p) (partsM p) s1 s2 t1 t2 (by omega) (by omega) k2 m2 H
  simp only [decide_eq_true rfl] at sm
  clear k1 m1
  generalize partsM p = L at *
  generalize partsE p = e at *
  have hM : ∃ M : Int, (1 < many ∧ M = many) ∨ (many ≤ 1 ∧ M = 1) := by
    by_cases h : 1 < many
    · exact ⟨many, .inl ⟨h, rfl⟩⟩
    · exact ⟨1, .inr ⟨by omega, rfl⟩⟩
  obtain ⟨M, hM⟩ := hM
  have run0 := pa_run0 many M hM L 0 0 (by rcases hM with ⟨h1, rfl⟩ | ⟨h1, rfl⟩ <;> omega)
  have run1 := pa_run1 many L 0 0
  have e0 : ((0 : Nat) : Int) + (L.length : Nat) = (L.length : Nat) := by omega
  rw [e0] at run0
  rw [Nat.zero_add] at run1
  simp (disch := omega) only [wk, avalE, aactE, evPE, boundE, asNat, bv_seql cellsEq_ii, bv_sneqd cellsEq_ii, readC, allOne, fillL, resE, tupled, ↓reduceIte, Nat.reduceEqDiff, Int.reduceEq, Int.reduceLT, Int.reduceLE, Nat.reduceAdd, Nat.reduceMul, Nat.reduceLT, Nat.reduceLeDiff, reduceCtorEq, bs_size, h1, pp, rp, sm, num_px, (ei _).1, (ei _).2, runE_none leach, List.append_nil, fn_nil]
  rw [ret_loop]
  simp (disch := omega) only [wk, avalE, aactE, evPE, boundE, asNat, bv_seql cellsEq_ii, bv_sneqd cellsEq_ii, readC, allOne, fillL, resE, tupled, ↓reduceIte, Nat.reduceEqDiff, Int.reduceEq, Int.reduceLT, Int.reduceLE, Nat.reduceAdd, Nat.reduceMul, Nat.reduceLT, Nat.reduceLeDiff, reduceCtorEq, List.append_nil]
  refine ret_range (f := 61) (caps := [.ptr 3 0]) (by simp only [en, ↓reduceIte, Nat.reduceEqDiff, evE_t]) (fun tm ha => ?_)
  obtain ⟨lo, hlo, q⟩ := pa_ic (tn := false) (many := many) (s1 := s1) (s2 := s2) (t1 := t1) (t2 := t2) (n0 := .dead) (lo0 := .dead) (L := L) (by omega) ha k2 m2 (by simp only [en, ↓reduceIte, Nat.reduceEqDiff]) (by simp only [en, ↓reduceIte, Nat.reduceEqDiff]) (by simp only [en, ↓reduceIte, Nat.reduceEqDiff]) (by simp only [en, ↓reduceIte, Nat.reduceEqDiff]; rfl) (by simp only [en, ↓reduceIte, Nat.reduceEqDiff]; rfl)
  generalize runJ (paStp false many) 0 0 L = N at q run0
  obtain ⟨st, pend, g1, g2, g3, g4⟩ := pa_lo (H := paHp false many (.sl s2 L.length (encs strA L) t2) (.sl s1 L.length (encs strA L) t1) .dead .dead N lo) (k := 7) hlo rfl
  refine ⟨_, _, st, pend, tm, _, _, _, q, g4, g1, g2, ?_⟩
  rw [ret_blk_either g3]
  have hset : (paHp false many (.sl s2 L.length (encs strA L) t2) (.sl s1 L.length (encs strA L) t1) .dead .dead N lo).set 7 (.loop 3 pend tm [47, 48] paAs paBd) = [.cells [.int .i64 many], .cells [.bool false], .cells [.sl s2 L.length (encs strA L) t2], .cells [.sl s1 L.length (encs strA L) t1], .cells [.int .i64 0], .cells [.int .i64 (N : Nat)], .defd, .loop 3 pend tm [47, 48] paAs paBd] := rfl
  simp only [List.length_cons, List.length_nil, Nat.reduceAdd]
  rw [hset]
  clear hset q g4
  generalize AObj.loop 3 pend tm [47, 48] paAs paBd = lo3
  clear ha hlo
  have hN : (1 < many ∧ (L.length : Int) ≤ many ∧ (N : Int) = L.length) ∨ (1 < many ∧ ¬ (L.length : Int) ≤ many ∧ (N : Int) = many) ∨ (¬ 1 < many ∧ (L.length : Int) ≤ 1 ∧ (N : Int) = L.length) ∨ (¬ 1 < many ∧ ¬ (L.length : Int) ≤ 1 ∧ (N : Int) = 1) := by
    rcases hM with ⟨h1, rfl⟩ | ⟨h1, rfl⟩ <;> split at run0 <;> omega
  rcases hN with ⟨hc1, hc2, hNv⟩ | ⟨hc1, hc2, hNv⟩ | ⟨hc1, hc2, hNv⟩ | ⟨hc1, hc2, hNv⟩
  all_goals
    simp (disch := omega) only [wk, avalE, aactE, evPE, boundE, asNat, bv_seql cellsEq_ii, bv_sneqd cellsEq_ii, readC, allOne, fillL, resE, tupled, ↓reduceIte, Nat.reduceEqDiff, Int.reduceEq, Int.reduceLT, Int.reduceLE, Nat.reduceAdd, Nat.reduceMul, Nat.reduceLT, Nat.reduceLeDiff, reduceCtorEq, hNv, List.append_nil]
    refine ret_again (by decide) (.inl rfl) ?_
    rw [ret_loop]
    simp (disch := omega) only [wk, avalE, aactE, evPE, boundE, asNat, bv_seql cellsEq_ii, bv_sneqd cellsEq_ii, readC, allOne, fillL, resE, tupled, ↓reduceIte, Nat.reduceEqDiff, Int.reduceEq, Int.reduceLT, Int.reduceLE, Nat.reduceAdd, Nat.reduceMul, Nat.reduceLT, Nat.reduceLeDiff, reduceCtorEq, List.append_nil]
    refine ret_range (f := 61) (caps := [.ptr 3 0]) (by simp only [en, ↓reduceIte, Nat.reduceEqDiff, evE_t]) (fun tm ha => ?_)
    obtain ⟨lo, hlo, q⟩ := pa_ic (tn := true) (many := many) (s1 := s1) (s2 := s2) (t1 := t1) (t2 := t2) (n0 := .cells [.int .i64 (N : Nat)]) (lo0 := lo3) (L := L) (by omega) ha k2 m2 (by simp only [en, ↓reduceIte, Nat.reduceEqDiff]) (by simp only [en, ↓reduceIte, Nat.reduceEqDiff]) (by simp only [en, ↓reduceIte, Nat.reduceEqDiff]) (by simp only [en, ↓reduceIte, Nat.reduceEqDiff]) (by simp only [en, ↓reduceIte, Nat.reduceEqDiff])
    rw [run1] at q
    obtain ⟨st, pend, g1, g2, g3, g4⟩ := pa_lo (H := paHp true many (.sl s2 L.length (encs strA L) t2) (.sl s1 L.length (encs strA L) t1) (.cells [.int .i64 (N : Nat)]) lo3 L.length lo) (k := 11) hlo rfl
    simp only [hNv] at q g4
    refine ⟨_, _, st, pend, tm, _, _, _, q, g4, g1, g2, ?_⟩
    rw [ret_blk_either g3]
    have hset : ∀ n0, (paHp true many (.sl s2 L.length (encs strA L) t2) (.sl s1 L.length (encs strA L) t1) n0 lo3 L.length lo).set 11 (.loop 3 pend tm [47, 48] paAs paBd) = [.cells [.int .i64 many], .cells [.bool false], .cells [.sl s2 L.length (encs strA L) t2], .cells [.sl s1 L.length (encs strA L) t1], .cells [.int .i64 0], n0, .defd, lo3, .cells [.int .i64 1], .cells [.int .i64 (L.length : Nat)], .defd, .loop 3 pend tm [47, 48] paAs paBd] := fun _ => rfl
    simp only [List.length_cons, List.length_nil, Nat.reduceAdd]
    rw [hset]
    generalize AObj.loop 3 pend tm [47, 48] paAs paBd = lo4
    simp (disch := omega) only [wk, avalE, aactE, evPE, boundE, asNat, bv_seql cellsEq_ii, bv_sneqd cellsEq_ii, readC, allOne, fillL, resE, tupled, ↓reduceIte, Nat.reduceEqDiff, Int.reduceEq, Int.reduceLT, Int.reduceLE, Nat.reduceAdd, Nat.reduceMul, Nat.reduceLT, Nat.reduceLeDiff, reduceCtorEq, List.append_nil]
    refine ret_again (by decide) (.inl rfl) ?_
    rw [ret_loop]
    simp (disch := omega) only [wk, avalE, aactE, evPE, boundE, asNat, bv_seql cellsEq_ii, bv_sneqd cellsEq_ii, readC, allOne, fillL, resE, tupled, ↓reduceIte, Nat.reduceEqDiff, Int.reduceEq, Int.reduceLT, Int.reduceLE, Nat.reduceAdd, Nat.reduceMul, Nat.reduceLT, Nat.reduceLeDiff, reduceCtorEq, List.append_nil, works_px]
    rw [ends_mark2 rfl rfl]
    simp (disch := omega) only [wk, avalE, aactE, evPE, boundE, asNat, bv_seql cellsEq_ii, bv_sneqd cellsEq_ii, readC, allOne, fillL, resE, tupled, ↓reduceIte, Nat.reduceEqDiff, Int.reduceEq, Int.reduceLT, Int.reduceLE, Nat.reduceAdd, Nat.reduceMul, Nat.reduceLT, Nat.reduceLeDiff, reduceCtorEq, purify, unownT, unown, AV.hf, hfL]
end Go.Proofs.YtmogflndepihnaaDoor
