/- THE WALK OF WHAT A FILE MAY BE. No condition but those stated. -/
import Derived.Test.YtncmflmjlocgiaaN3
set_option linter.unusedSimpArgs false
set_option linter.unusedVariables false
set_option linter.unusedSectionVars false
namespace Go.Proofs.Ytncmflmjlocgiaa
open Go Go.Am Go.Rec Go.Ino
set_option maxHeartbeats 4000000
set_option maxRecDepth 10000
theorem each_no (m : AV) (H : Heap) : pcx (cbL tab) 106 [m] H = none := pcx_none rfl (pc_none (fi := c106) rfl rfl)
theorem each_ic (l : List Ext) (m : AV) (t : List Int) (b : Bool) (hm : MapR m l) (hn : l.length ≤ 1000) (hR : ofR l = (t, b)) (hT : Tab t) (H : Heap) :
    (cbL tab).ic 106 [m] H = some (.ret (.fn 138 [.ptr H.length 0]), H ++ [.cells (encs i64A t)]) := by
  have : ∃ o H', (cbL tab).ic 106 [m] H = some (o, H') ∧ o = .ret (.fn 138 [.ptr H.length 0]) ∧ H' = H ++ [.cells (encs i64A t)] := by
    refine ic_wp (fi := c106) rfl rfl (by simp [c106]) (by decide) ?_
    unfold c106
    rw [z128]
    have p := fun H => xof_px l m hm hn H
    simp only [hR, ofV, tabV] at p
    have tl := lenT t
    have tl2 := hT.len
    have tz := lenT t0
    have tz2 := Tab.t0.len
    have tdz := dr128 t0 Tab.t0
    have one := one_i64A t
    have nx : ∀ A : AObj, (H ++ [A])[H.length]? = some A := fun A => by simp
    have stx : ∀ A B : AObj, (H ++ [A]).set H.length B = H ++ [B] := fun A B => by simp
    simp (disch := omega) only [wk, avalE, aactE, evPE, boundE, asNat, bv_seql cellsEq_ii, bv_sneqd cellsEq_ii, readC, allOne, fillL, resE, tupled, ↓reduceIte, Nat.reduceEqDiff, Int.reduceEq, Int.reduceLT, Int.reduceLE, Nat.reduceAdd, Nat.reduceMul, Nat.reduceLT, Nat.reduceLeDiff, reduceCtorEq, p, tl, tl2, tz, tz2, tdz, one, nx, stx, flat_tab, List.append_nil]
  obtain ⟨o, H', h, rfl, rfl⟩ := this
  exact h
theorem leach : (cbL tab).lent 106 = false := rfl
def mayAs : ACode := .region [⟨some 3, .mv (.t 20), none⟩]
def mayBd : ACode := .block 1 (.seq (.region [⟨some 22, .mv (.t 3), none⟩, ⟨some 23, .bin .mul .num (.t 22) (.c (.int .i64 512)), none⟩, ⟨some 24, .fld 0 (.t 1), none⟩, ⟨some 25, .fld 2 (.t 24), none⟩, ⟨some 26, .load 1 false (.t 25), none⟩, ⟨some 27, .bin .geq .num (.t 23) (.t 26), none⟩])
  (.cond (.t 27) (.seq (.region [⟨none, .store 1 (.t 2) (.c (.bool false)), none⟩]) .ret) .skip))
def mayH (cs : List AV) (r : Bool) (t : List Int) (lo : AObj) : Heap := [.cells cs, .cells [.bool r], .cells (encs i64A t), .defd, lo]
def inoC (n : Ino) (m : AV) : List AV := [.int .i64 n.kind, .int .i64 n.links, .int .i64 n.size, m, .int .i64 n.root, .int .i64 n.parent, .str n.target]
theorem yield_ok {E : Env} {tm : List AV} (ha : Ag 28 tm E) (E1 : E 1 = .ptr 0 0) (E2 : E 2 = .ptr 1 0) (n : Ino) (m : AV) (t : List Int) (i : Nat) (d : Int) (hi : i < 128) (h : 512 * (i : Int) < n.size) :
    (cbL tab).yl 4 [.int .i64 (i : Nat), .int .i64 d] (mayH (inoC n m) false t (.loop 0 .normal tm [20, 21] mayAs mayBd)) = some (.ret (.bool true), mayH (inoC n m) false t (.loop 0 .normal tm [20, 21] mayAs mayBd)) := by
  have key := yl_wp (tab := tab) (id := 4) (P := fun b H' => b = true ∧ H' = mayH (inoC n m) false t (.loop 0 .normal tm [20, 21] mayAs mayBd))
    (args := [.int .i64 (i : Nat), .int .i64 d]) (H := mayH (inoC n m) false t (.loop 0 .normal tm [20, 21] mayAs mayBd)) (readLoop_of rfl) ha rfl (by decide) (by decide) (by decide) (by decide) (by decide) ?_
  · obtain ⟨b, H', k1, rfl, rfl⟩ := key
    exact k1
  unfold mayAs
  simp (disch := omega) only [wk, avalE, aactE, evPE, boundE, asNat, bv_seql cellsEq_ii, bv_sneqd cellsEq_ii, readC, allOne, fillL, resE, tupled, ↓reduceIte, Nat.reduceEqDiff, Int.reduceEq, Int.reduceLT, Int.reduceLE, Nat.reduceAdd, Nat.reduceMul, Nat.reduceLT, Nat.reduceLeDiff, reduceCtorEq, updPs_cons, updPs_nil, List.append_nil]
  refine ⟨rfl, rfl, _, _, _, _, _, readLoop_of rfl, ?_⟩
  unfold mayBd mayH inoC
  have c : ¬ n.size ≤ (i : Int) * 512 := by omega
  simp (disch := omega) only [wk, avalE, aactE, evPE, boundE, asNat, bv_seql cellsEq_ii, bv_sneqd cellsEq_ii, readC, allOne, fillL, resE, tupled, ↓reduceIte, Nat.reduceEqDiff, Int.reduceEq, Int.reduceLT, Int.reduceLE, Nat.reduceAdd, Nat.reduceMul, Nat.reduceLT, Nat.reduceLeDiff, reduceCtorEq, E1, E2, c, List.append_nil]
  refine ⟨rfl, _, _, _, _, _, _, readLoop_of rfl, rfl, rfl⟩
theorem yield_no {E : Env} {tm : List AV} (ha : Ag 28 tm E) (E1 : E 1 = .ptr 0 0) (E2 : E 2 = .ptr 1 0) (n : Ino) (m : AV) (t : List Int) (i : Nat) (d : Int) (hi : i < 128) (h : ¬ 512 * (i : Int) < n.size) :
    (cbL tab).yl 4 [.int .i64 (i : Nat), .int .i64 d] (mayH (inoC n m) false t (.loop 0 .normal tm [20, 21] mayAs mayBd)) = some (.ret (.bool false), mayH (inoC n m) false t (.loop 2 .ret tm [20, 21] mayAs mayBd)) := by
  have key := yl_wp (tab := tab) (id := 4) (P := fun b H' => b = false ∧ H' = mayH (inoC n m) false t (.loop 2 .ret tm [20, 21] mayAs mayBd))
    (args := [.int .i64 (i : Nat), .int .i64 d]) (H := mayH (inoC n m) false t (.loop 0 .normal tm [20, 21] mayAs mayBd)) (readLoop_of rfl) ha rfl (by decide) (by decide) (by decide) (by decide) (by decide) ?_
  · obtain ⟨b, H', k1, rfl, rfl⟩ := key
    exact k1
  unfold mayAs
  simp (disch := omega) only [wk, avalE, aactE, evPE, boundE, asNat, bv_seql cellsEq_ii, bv_sneqd cellsEq_ii, readC, allOne, fillL, resE, tupled, ↓reduceIte, Nat.reduceEqDiff, Int.reduceEq, Int.reduceLT, Int.reduceLE, Nat.reduceAdd, Nat.reduceMul, Nat.reduceLT, Nat.reduceLeDiff, reduceCtorEq, updPs_cons, updPs_nil, List.append_nil]
  refine ⟨rfl, rfl, _, _, _, _, _, readLoop_of rfl, ?_⟩
  unfold mayBd mayH inoC
  have c : n.size ≤ (i : Int) * 512 := by omega
  simp (disch := omega) only [wk, avalE, aactE, evPE, boundE, asNat, bv_seql cellsEq_ii, bv_sneqd cellsEq_ii, readC, allOne, fillL, resE, tupled, ↓reduceIte, Nat.reduceEqDiff, Int.reduceEq, Int.reduceLT, Int.reduceLE, Nat.reduceAdd, Nat.reduceMul, Nat.reduceLT, Nat.reduceLeDiff, reduceCtorEq, E1, E2, c, List.append_nil]
  refine ⟨rfl, _, _, _, _, _, _, readLoop_of rfl, rfl, rfl⟩
/-- The ranges' function, over a table. -/
theorem each1_ic {E0 : Env} {tm : List AV} (ha : Ag 28 tm E0) (E1 : E0 1 = .ptr 0 0) (E2 : E0 2 = .ptr 1 0) (n : Ino) (m : AV) (t : List Int) (hT : Tab t) :
    (cbL tab).ic 138 [.yld 4, .ptr 2 0] (mayH (inoC n m) false t (.loop 0 .normal tm [20, 21] mayAs mayBd)) = some (.ret (.tup []), mayH (inoC n m) false t (if tabOkI t n.size then .loop 0 .normal tm [20, 21] mayAs mayBd else .loop 2 .ret tm [20, 21] mayAs mayBd)) := by
  have : ∃ o H', (cbL tab).ic 138 [.yld 4, .ptr 2 0] (mayH (inoC n m) false t (.loop 0 .normal tm [20, 21] mayAs mayBd)) = some (o, H') ∧ o = .ret (.tup []) ∧
      H' = mayH (inoC n m) false t (if tabOkI t n.size then .loop 0 .normal tm [20, 21] mayAs mayBd else .loop 2 .ret tm [20, 21] mayAs mayBd) := by
    refine ic_wp (fi := c138) rfl rfl (by simp [c138]) (by decide) ?_
    unfold c138
    have tk := tk128 t hT
    have tl := lenT t
    have tl2 := hT.len
    have g2 : (mayH (inoC n m) false t (.loop 0 .normal tm [20, 21] mayAs mayBd))[2]? = some (.cells (encs i64A t)) := rfl
    simp (disch := omega) only [wk, avalE, aactE, evPE, boundE, asNat, bv_seql cellsEq_ii, bv_sneqd cellsEq_ii, readC, allOne, fillL, resE, tupled, ↓reduceIte, Nat.reduceEqDiff, Int.reduceEq, Int.reduceLT, Int.reduceLE, Nat.reduceAdd, Nat.reduceMul, Nat.reduceLT, Nat.reduceLeDiff, reduceCtorEq, g2, tk, tl, tl2]
    refine loop_ind (fun (j : Nat) E df H => j ≤ 128 ∧ tabOkI t n.size = ((List.range' j (128 - j)).all fun i => t.getD i 0 == 0 || decide (512 * (i : Int) < n.size)) ∧ E 0 = .yld 4 ∧ E 5 = .agg (encs i64A t) ∧ E 6 = .int .i64 (j : Nat) ∧ df = [] ∧ H = mayH (inoC n m) false t (.loop 0 .normal tm [20, 21] mayAs mayBd))
      (fun j => 128 - j) 0 (by decide) (.inl rfl) ⟨Nat.zero_le _, by rw [tabOkI, List.range_eq_range'], rfl, rfl, rfl, rfl, rfl⟩ ?_
    intro j E df H ih hP
    obtain ⟨hj, hb, E0', E5, E6, hdf, hH⟩ := hP
    subst hdf hH
    by_cases hj2 : j = 128
    · subst hj2
      have n1 : ¬ (128 : Int) < 128 := by decide
      have i128 : ((128 : Nat) : Int) = 128 := rfl
      rw [i128] at E6
      have e : tabOkI t n.size = true := by rw [hb]; rfl
      simp (disch := omega) only [wk, avalE, aactE, evPE, boundE, asNat, bv_seql cellsEq_ii, bv_sneqd cellsEq_ii, readC, allOne, fillL, resE, tupled, ↓reduceIte, Nat.reduceEqDiff, Int.reduceEq, Int.reduceLT, Int.reduceLE, Nat.reduceAdd, Nat.reduceMul, Nat.reduceLT, Nat.reduceLeDiff, reduceCtorEq, E0', E5, E6, n1, e]
    have n1 : (j : Int) < 128 := by omega
    have g := getI t j (by omega)
    have st : (List.range' j (128 - j)).all (fun i => t.getD i 0 == 0 || decide (512 * (i : Int) < n.size)) = ((t.getD j 0 == 0 || decide (512 * (j : Int) < n.size)) && (List.range' (j + 1) (128 - (j + 1))).all fun i => t.getD i 0 == 0 || decide (512 * (i : Int) < n.size)) := by
      have h1 : 128 - j = (128 - (j + 1)) + 1 := by omega
      rw [h1, List.range'_succ, List.all_cons]
    have hv : 0 ≤ t.getD j 0 := by
      have hjl : j < t.length := by omega
      rw [List.getD_eq_getElem?_getD, List.getElem?_eq_getElem hjl, Option.getD_some]
      exact (hT.val _ (List.getElem_mem hjl)).1
    by_cases g0 : t.getD j 0 = 0
    · have n2 : ¬ (0 : Int) < 0 := by decide
      simp (disch := omega) only [wk, avalE, aactE, evPE, boundE, asNat, bv_seql cellsEq_ii, bv_sneqd cellsEq_ii, readC, allOne, fillL, resE, tupled, ↓reduceIte, Nat.reduceEqDiff, Int.reduceEq, Int.reduceLT, Int.reduceLE, Nat.reduceAdd, Nat.reduceMul, Nat.reduceLT, Nat.reduceLeDiff, reduceCtorEq, E0', E5, E6, n1, g, Nat.zero_add, g0, n2]
      refine ih (j + 1) _ _ _ (by omega) ?_
      refine ⟨by omega, ?_, by simp only [en, ↓reduceIte, Nat.reduceEqDiff, E0'], by simp only [en, ↓reduceIte, Nat.reduceEqDiff, E5], by simp only [en, ↓reduceIte, Nat.reduceEqDiff], rfl, rfl⟩
      rw [hb, st, g0]; simp
    · have n2 : 0 < t.getD j 0 := by omega
      have g0' : (t.getD j 0 == 0) = false := by simpa using g0
      by_cases g1 : 512 * (j : Int) < n.size
      · have y := yield_ok ha E1 E2 n m t j (t.getD j 0) (by omega) g1
        simp (disch := omega) only [wk, avalE, aactE, evPE, boundE, asNat, bv_seql cellsEq_ii, bv_sneqd cellsEq_ii, readC, allOne, fillL, resE, tupled, ↓reduceIte, Nat.reduceEqDiff, Int.reduceEq, Int.reduceLT, Int.reduceLE, Nat.reduceAdd, Nat.reduceMul, Nat.reduceLT, Nat.reduceLeDiff, reduceCtorEq, E0', E5, E6, n1, g, Nat.zero_add, n2, y]
        refine ih (j + 1) _ _ _ (by omega) ?_
        refine ⟨by omega, ?_, by simp only [en, ↓reduceIte, Nat.reduceEqDiff, E0'], by simp only [en, ↓reduceIte, Nat.reduceEqDiff, E5], by simp only [en, ↓reduceIte, Nat.reduceEqDiff], rfl, rfl⟩
        rw [hb, st, g0', decide_eq_true g1]; rfl
      · have y := yield_no ha E1 E2 n m t j (t.getD j 0) (by omega) g1
        have e : tabOkI t n.size = false := by rw [hb, st, g0', decide_eq_false g1]; rfl
        simp (disch := omega) only [wk, avalE, aactE, evPE, boundE, asNat, bv_seql cellsEq_ii, bv_sneqd cellsEq_ii, readC, allOne, fillL, resE, tupled, ↓reduceIte, Nat.reduceEqDiff, Int.reduceEq, Int.reduceLT, Int.reduceLE, Nat.reduceAdd, Nat.reduceMul, Nat.reduceLT, Nat.reduceLeDiff, reduceCtorEq, E0', E5, E6, n1, g, Nat.zero_add, n2, y, e]
  obtain ⟨o, H', h, rfl, rfl⟩ := this
  exact h
theorem may1_px (n : Ino) (m : AV) (hm : MapR m n.map) (hn : n.map.length ≤ 1000) (H : Heap) : pcx (cbL tab) 104 [inoA n m] H = some (.plain (.bool (decide (0 ≤ n.size ∧ n.size ≤ 65536) && mapOk n.map n.size))) := by
  refine pcx_N rfl (pc_wp (fi := c104) rfl ?_ (by simp [c104]) (by decide) ?_)
  · simp only [pcOn, List.map_cons, List.map_nil, hfL, hf_lend_sl, hf_lend_int, hf_lend_bool, hf_lend_str, hfL_append, Bool.and_self, Bool.and_true, Bool.true_and, c104, lend_inoA hm, hf_inoA hm]
  unfold c104
  rw [List.map_cons, List.map_nil, lend_inoA hm]
  have m1 := hm.one.1
  have m2 := hm.one.2
  have p1 := fun H => ini_px n.size 0 65536 H
  have p2 := fun H => xcheck_px n.map m hm hn H
  have hin : inoA n m = .agg (inoC n m) := rfl
  simp only [inoA]
  by_cases c1 : 0 ≤ n.size ∧ n.size ≤ 65536
  case neg =>
    have c1' : decide (0 ≤ n.size ∧ n.size ≤ 65536) = false := decide_eq_false c1
    clear c1
    simp (disch := omega) only [wk, avalE, aactE, evPE, boundE, asNat, bv_seql cellsEq_ii, bv_sneqd cellsEq_ii, readC, allOne, fillL, resE, tupled, ↓reduceIte, Nat.reduceEqDiff, Int.reduceEq, Int.reduceLT, Int.reduceLE, Nat.reduceAdd, Nat.reduceMul, Nat.reduceLT, Nat.reduceLeDiff, reduceCtorEq, m1, m2, p1, c1', purify, unownT, AV.hf, Bool.false_and]
  have c1' : decide (0 ≤ n.size ∧ n.size ≤ 65536) = true := decide_eq_true c1
  obtain ⟨t, hT, hR⟩ := ofR_tab n.map
  have ee : errE n.map = if (ofM n.map).isSome then 0 else 2 := rfl
  cases hs : (ofM n.map).isSome with
  | false =>
    rw [hs] at ee
    have ee' : errE n.map = 2 := ee
    have e : mapOk n.map n.size = false := by
      unfold mapOk
      cases ho : ofM n.map with
      | none => rfl
      | some t => rw [ho] at hs; cases hs
    rw [ee'] at p2
    clear c1
    simp (disch := omega) only [wk, avalE, aactE, evPE, boundE, asNat, bv_seql cellsEq_ii, bv_sneqd cellsEq_ii, readC, allOne, fillL, resE, tupled, ↓reduceIte, Nat.reduceEqDiff, Int.reduceEq, Int.reduceLT, Int.reduceLE, Nat.reduceAdd, Nat.reduceMul, Nat.reduceLT, Nat.reduceLeDiff, reduceCtorEq, m1, m2, p1, c1', p2, e, purify, unownT, AV.hf, Bool.and_false]
  | true =>
    rw [hs] at ee hR
    have ee' : errE n.map = 0 := ee
    rw [ee'] at p2
    have hof : ofM n.map = some t := by
      unfold ofR at hR
      cases ho : ofM n.map with
      | none => rw [ho] at hR; cases hR
      | some t' => rw [ho] at hR; cases hR; rfl
    have e : mapOk n.map n.size = tabOkI t n.size := by unfold mapOk; rw [hof]
    have q1 := fun H => each_no m H
    have q2 := fun H => each_ic n.map m t true hm hn hR hT H
    clear c1
    simp (disch := omega) only [wk, avalE, aactE, evPE, boundE, asNat, bv_seql cellsEq_ii, bv_sneqd cellsEq_ii, readC, allOne, fillL, resE, tupled, ↓reduceIte, Nat.reduceEqDiff, Int.reduceEq, Int.reduceLT, Int.reduceLE, Nat.reduceAdd, Nat.reduceMul, Nat.reduceLT, Nat.reduceLeDiff, reduceCtorEq, m1, m2, p1, c1', p2, q1, q2, runE_none leach]
    refine ret_range (f := 138) (caps := [.ptr 2 0]) (by simp only [en, ↓reduceIte, Nat.reduceEqDiff, evE_t]) (fun tm ha => ?_)
    have r := each1_ic ha (by simp only [en, ↓reduceIte, Nat.reduceEqDiff]) (by simp only [en, ↓reduceIte, Nat.reduceEqDiff]) n m t hT
    cases ht : tabOkI t n.size with
    | true =>
      rw [ht] at r
      refine ⟨_, _, _, _, _, _, _, _, r, readLoop_of rfl, by decide, rfl, ?_⟩
      simp (disch := omega) only [wk, avalE, aactE, evPE, boundE, asNat, bv_seql cellsEq_ii, bv_sneqd cellsEq_ii, readC, allOne, fillL, resE, tupled, ↓reduceIte, Nat.reduceEqDiff, Int.reduceEq, Int.reduceLT, Int.reduceLE, Nat.reduceAdd, Nat.reduceMul, Nat.reduceLT, Nat.reduceLeDiff, reduceCtorEq, mayH, e, ht, List.append_nil, List.drop_nil]
      rw [ends_mark rfl]
      simp (disch := omega) only [wk, avalE, aactE, evPE, boundE, asNat, bv_seql cellsEq_ii, bv_sneqd cellsEq_ii, readC, allOne, fillL, resE, tupled, ↓reduceIte, Nat.reduceEqDiff, Int.reduceEq, Int.reduceLT, Int.reduceLE, Nat.reduceAdd, Nat.reduceMul, Nat.reduceLT, Nat.reduceLeDiff, reduceCtorEq, purify, unownT, AV.hf, Bool.true_and, Bool.and_true, Bool.and_false]
    | false =>
      rw [ht] at r
      refine ⟨_, _, _, _, _, _, _, _, r, readLoop_of rfl, by decide, rfl, ?_⟩
      simp (disch := omega) only [wk, avalE, aactE, evPE, boundE, asNat, bv_seql cellsEq_ii, bv_sneqd cellsEq_ii, readC, allOne, fillL, resE, tupled, ↓reduceIte, Nat.reduceEqDiff, Int.reduceEq, Int.reduceLT, Int.reduceLE, Nat.reduceAdd, Nat.reduceMul, Nat.reduceLT, Nat.reduceLeDiff, reduceCtorEq, mayH, e, ht, List.append_nil, List.drop_nil]
      rw [ends_mark rfl]
      simp (disch := omega) only [wk, avalE, aactE, evPE, boundE, asNat, bv_seql cellsEq_ii, bv_sneqd cellsEq_ii, readC, allOne, fillL, resE, tupled, ↓reduceIte, Nat.reduceEqDiff, Int.reduceEq, Int.reduceLT, Int.reduceLE, Nat.reduceAdd, Nat.reduceMul, Nat.reduceLT, Nat.reduceLeDiff, reduceCtorEq, purify, unownT, AV.hf, Bool.true_and, Bool.and_true, Bool.and_false]
end Go.Proofs.Ytncmflmjlocgiaa
