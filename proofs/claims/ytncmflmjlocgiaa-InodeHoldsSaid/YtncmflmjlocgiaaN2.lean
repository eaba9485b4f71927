/- THE WALK OF THE DOCUMENT'S Check. No condition but those stated. -/
import Derived.Test.YtncmflmjlocgiaaN1
set_option linter.unusedSimpArgs false
set_option linter.unusedVariables false
set_option linter.unusedSectionVars false
namespace Go.Proofs.Ytncmflmjlocgiaa
open Go Go.Am Go.Rec Go.Ino
set_option maxHeartbeats 4000000
set_option maxRecDepth 10000
def checkI (n : Ino) : Int := if okI n then 0 else 240
theorem checkI_ok {n : Ino} (h : okI n) : checkI n = 0 := if_pos h
theorem checkI_no {n : Ino} (h : ¬ okI n) : checkI n = 240 := if_neg h
def linksOk (n : Ino) : Prop := 0 ≤ n.links ∧ n.links ≤ 65535
theorem okI_kind {n : Ino} (h : okI n) : 0 ≤ n.kind ∧ n.kind ≤ 3 := by
  obtain ⟨_, _, h | h | h | h⟩ := h <;> omega
theorem okI_0 {n : Ino} (h : n.kind = 0) : okI n ↔ linksOk n ∧ zB n false false false = true ∧ n.links = 0 := by
  unfold okI bodyI linksOk zB
  simp only [decide_eq_true_eq, Bool.false_eq_true, false_or, List.length_eq_zero_iff]
  constructor
  · rintro ⟨h1, h2, h3 | h3 | h3 | h3⟩
    · obtain ⟨_, a, b, c, d, e, f⟩ := h3
      exact ⟨⟨h1, h2⟩, ⟨⟨b, c⟩, ⟨d, e⟩, f⟩, a⟩
    all_goals omega
  · rintro ⟨⟨h1, h2⟩, ⟨⟨b, c⟩, ⟨d, e⟩, f⟩, a⟩
    exact ⟨h1, h2, .inl ⟨h, a, b, c, d, e, f⟩⟩
theorem okI_1 {n : Ino} (h : n.kind = 1) : okI n ↔ linksOk n ∧ zB n true false false = true ∧ 0 ≤ n.size ∧ n.size ≤ 65536 ∧ mapOk n.map n.size = true := by
  unfold okI bodyI linksOk zB
  simp only [decide_eq_true_eq, Bool.false_eq_true, false_or, true_or, true_and]
  constructor
  · rintro ⟨h1, h2, h3 | h3 | h3 | h3⟩
    · omega
    · obtain ⟨_, a, b, c, d, e, f⟩ := h3
      exact ⟨⟨h1, h2⟩, ⟨⟨a, b⟩, c⟩, d, e, f⟩
    all_goals omega
  · rintro ⟨⟨h1, h2⟩, ⟨⟨a, b⟩, c⟩, d, e, f⟩
    exact ⟨h1, h2, .inr (.inl ⟨h, a, b, c, d, e, f⟩)⟩
theorem okI_2 {n : Ino} (h : n.kind = 2) : okI n ↔ linksOk n ∧ zB n false true false = true ∧ 1 ≤ n.root ∧ n.root ≤ 2047 ∧ 1 ≤ n.parent ∧ n.parent ≤ 256 := by
  unfold okI bodyI linksOk zB
  simp only [decide_eq_true_eq, Bool.false_eq_true, false_or, true_or, true_and, List.length_eq_zero_iff]
  constructor
  · rintro ⟨h1, h2, h3 | h3 | h3 | h3⟩
    · omega
    · omega
    · obtain ⟨_, a, b, c, d, e, f, g⟩ := h3
      exact ⟨⟨h1, h2⟩, ⟨⟨a, b⟩, c⟩, d, e, f, g⟩
    · omega
  · rintro ⟨⟨h1, h2⟩, ⟨⟨a, b⟩, c⟩, d, e, f, g⟩
    exact ⟨h1, h2, .inr (.inr (.inl ⟨h, a, b, c, d, e, f, g⟩))⟩
theorem okI_3 {n : Ino} (h : n.kind = 3) : okI n ↔ linksOk n ∧ zB n false false true = true ∧ 1 ≤ n.target.size ∧ n.target.size ≤ 112 ∧ flatM n.target.data.toList = true := by
  unfold okI bodyI linksOk zB
  simp only [decide_eq_true_eq, Bool.false_eq_true, false_or, true_or, and_true, List.length_eq_zero_iff]
  constructor
  · rintro ⟨h1, h2, h3 | h3 | h3 | h3⟩
    · omega
    · omega
    · omega
    · obtain ⟨_, a, b, c, d, e, f, g⟩ := h3
      exact ⟨⟨h1, h2⟩, ⟨⟨a, b⟩, ⟨c, d⟩⟩, e, f, g⟩
  · rintro ⟨⟨h1, h2⟩, ⟨⟨a, b⟩, ⟨c, d⟩⟩, e, f, g⟩
    exact ⟨h1, h2, .inr (.inr (.inr ⟨h, a, b, c, d, e, f, g⟩))⟩
theorem rcheck_px (n : Ino) (m : AV) (hm : MapR m n.map) (hn : n.map.length ≤ 1000) (hs : n.target.size ≤ 1000) (H : Heap) : pcx (cbL tab) 44 [inoA n m] H = some (.plain (.int .i64 (checkI n))) := by
  refine pcx_N rfl (pc_wp (fi := c44) rfl ?_ (by simp [c44]) (by decide) ?_)
  · simp only [pcOn, List.map_cons, List.map_nil, hfL, hf_lend_sl, hf_lend_int, hf_lend_bool, hf_lend_str, hfL_append, Bool.and_self, Bool.and_true, Bool.true_and, c44, lend_inoA hm, hf_inoA hm]
  unfold c44
  rw [List.map_cons, List.map_nil, lend_inoA hm, z128]
  have m1 := hm.one.1
  have m2 := hm.one.2
  have z := fun f d l H => zero_px n m hm f d l H
  have zi : inoA n m = .agg [.int .i64 n.kind, .int .i64 n.links, .int .i64 n.size, m, .int .i64 n.root, .int .i64 n.parent, .str n.target] := rfl
  simp only [inoA] at z
  by_cases k0 : n.kind = 0
  · have ok := okI_0 k0
    by_cases l1 : 0 ≤ n.links
    case neg =>
      have e := checkI_no (n := n) (fun h => l1 (ok.1 h).1.1)
      simp (disch := omega) only [wk, avalE, aactE, evPE, boundE, asNat, bv_seql cellsEq_ii, bv_sneqd cellsEq_ii, readC, allOne, fillL, resE, tupled, ↓reduceIte, Nat.reduceEqDiff, Int.reduceEq, Int.reduceLT, Int.reduceLE, Nat.reduceAdd, Nat.reduceMul, Nat.reduceLT, Nat.reduceLeDiff, reduceCtorEq, zi, m1, m2, k0, l1, e, purify, unownT, AV.hf]
    by_cases l2 : n.links ≤ 65535
    case neg =>
      have e := checkI_no (n := n) (fun h => l2 (ok.1 h).1.2)
      simp (disch := omega) only [wk, avalE, aactE, evPE, boundE, asNat, bv_seql cellsEq_ii, bv_sneqd cellsEq_ii, readC, allOne, fillL, resE, tupled, ↓reduceIte, Nat.reduceEqDiff, Int.reduceEq, Int.reduceLT, Int.reduceLE, Nat.reduceAdd, Nat.reduceMul, Nat.reduceLT, Nat.reduceLeDiff, reduceCtorEq, zi, m1, m2, k0, l1, l2, e, purify, unownT, AV.hf]
    rw [k0] at z
    cases hz : zB n false false false with
    | false =>
      have e := checkI_no (n := n) (fun h => by have := (ok.1 h).2.1; rw [hz] at this; cases this)
      simp (disch := omega) only [wk, avalE, aactE, evPE, boundE, asNat, bv_seql cellsEq_ii, bv_sneqd cellsEq_ii, readC, allOne, fillL, resE, tupled, ↓reduceIte, Nat.reduceEqDiff, Int.reduceEq, Int.reduceLT, Int.reduceLE, Nat.reduceAdd, Nat.reduceMul, Nat.reduceLT, Nat.reduceLeDiff, reduceCtorEq, zi, m1, m2, k0, l1, l2, z, hz, e, purify, unownT, AV.hf]
    | true =>
      by_cases l3 : n.links = 0
      · have e := checkI_ok (n := n) (ok.2 ⟨⟨l1, l2⟩, hz, l3⟩)
        clear l1 l2
        have l1 : (0 : Int) ≤ 0 := by decide
        have l2 : (0 : Int) ≤ 65535 := by decide
        rw [l3] at z
        simp (disch := omega) only [wk, avalE, aactE, evPE, boundE, asNat, bv_seql cellsEq_ii, bv_sneqd cellsEq_ii, readC, allOne, fillL, resE, tupled, ↓reduceIte, Nat.reduceEqDiff, Int.reduceEq, Int.reduceLT, Int.reduceLE, Nat.reduceAdd, Nat.reduceMul, Nat.reduceLT, Nat.reduceLeDiff, reduceCtorEq, zi, m1, m2, k0, l3, l1, l2, z, hz, e, purify, unownT, AV.hf]
      · have e := checkI_no (n := n) (fun h => l3 (ok.1 h).2.2)
        simp (disch := omega) only [wk, avalE, aactE, evPE, boundE, asNat, bv_seql cellsEq_ii, bv_sneqd cellsEq_ii, readC, allOne, fillL, resE, tupled, ↓reduceIte, Nat.reduceEqDiff, Int.reduceEq, Int.reduceLT, Int.reduceLE, Nat.reduceAdd, Nat.reduceMul, Nat.reduceLT, Nat.reduceLeDiff, reduceCtorEq, zi, m1, m2, k0, l1, l2, z, hz, l3, e, purify, unownT, AV.hf]
  by_cases k1 : n.kind = 1
  · have ok := okI_1 k1
    obtain ⟨s, rest, tk, hme, hz', hr', htk⟩ := hm
    obtain ⟨v, hv, t, b, rfl, hT, hb, hbt⟩ := rxof_pc n.map s rest tk hz' hr' hn
    have xo : ∀ H, pcx (cbL tab) 79 [m] H = some (.plain (ofV (t, b))) := fun H => by rw [hme]; exact pcx_N rfl hv
    simp only [ofV, tabV] at xo
    clear hv hme
    have tl := lenT t
    have tl2 := hT.len
    have td := dr128 t hT
    have tz := lenT t0
    have tz2 := Tab.t0.len
    have tdz := dr128 t0 Tab.t0
    have one := one_i64A t
    have c10 : ¬ (1 : Int) = 0 := by decide
    have h128 : (0 : Int) < 128 := by decide
    rw [k1] at z
    by_cases l1 : 0 ≤ n.links
    case neg =>
      have e := checkI_no (n := n) (fun h => l1 (ok.1 h).1.1)
      simp (disch := omega) only [wk, avalE, aactE, evPE, boundE, asNat, bv_seql cellsEq_ii, bv_sneqd cellsEq_ii, readC, allOne, fillL, resE, tupled, ↓reduceIte, Nat.reduceEqDiff, Int.reduceEq, Int.reduceLT, Int.reduceLE, Nat.reduceAdd, Nat.reduceMul, Nat.reduceLT, Nat.reduceLeDiff, reduceCtorEq, zi, m1, m2, k1, c10, l1, xo, tl, tl2, td, tz, tz2, tdz, one, flat_tab, List.append_nil]
      rw [ret_loop]
      simp (disch := omega) only [wk, avalE, aactE, evPE, boundE, asNat, bv_seql cellsEq_ii, bv_sneqd cellsEq_ii, readC, allOne, fillL, resE, tupled, ↓reduceIte, Nat.reduceEqDiff, Int.reduceEq, Int.reduceLT, Int.reduceLE, Nat.reduceAdd, Nat.reduceMul, Nat.reduceLT, Nat.reduceLeDiff, reduceCtorEq, h128, e, purify, unownT, AV.hf]
    by_cases l2 : n.links ≤ 65535
    case neg =>
      have e := checkI_no (n := n) (fun h => l2 (ok.1 h).1.2)
      simp (disch := omega) only [wk, avalE, aactE, evPE, boundE, asNat, bv_seql cellsEq_ii, bv_sneqd cellsEq_ii, readC, allOne, fillL, resE, tupled, ↓reduceIte, Nat.reduceEqDiff, Int.reduceEq, Int.reduceLT, Int.reduceLE, Nat.reduceAdd, Nat.reduceMul, Nat.reduceLT, Nat.reduceLeDiff, reduceCtorEq, zi, m1, m2, k1, c10, l1, l2, xo, tl, tl2, td, tz, tz2, tdz, one, flat_tab, List.append_nil]
      rw [ret_loop]
      simp (disch := omega) only [wk, avalE, aactE, evPE, boundE, asNat, bv_seql cellsEq_ii, bv_sneqd cellsEq_ii, readC, allOne, fillL, resE, tupled, ↓reduceIte, Nat.reduceEqDiff, Int.reduceEq, Int.reduceLT, Int.reduceLE, Nat.reduceAdd, Nat.reduceMul, Nat.reduceLT, Nat.reduceLeDiff, reduceCtorEq, h128, e, purify, unownT, AV.hf]
    cases hz : zB n true false false with
    | false =>
      have e := checkI_no (n := n) (fun h => by have := (ok.1 h).2.1; rw [hz] at this; cases this)
      simp (disch := omega) only [wk, avalE, aactE, evPE, boundE, asNat, bv_seql cellsEq_ii, bv_sneqd cellsEq_ii, readC, allOne, fillL, resE, tupled, ↓reduceIte, Nat.reduceEqDiff, Int.reduceEq, Int.reduceLT, Int.reduceLE, Nat.reduceAdd, Nat.reduceMul, Nat.reduceLT, Nat.reduceLeDiff, reduceCtorEq, zi, m1, m2, k1, c10, l1, l2, z, hz, xo, tl, tl2, td, tz, tz2, tdz, one, flat_tab, List.append_nil]
      rw [ret_loop]
      simp (disch := omega) only [wk, avalE, aactE, evPE, boundE, asNat, bv_seql cellsEq_ii, bv_sneqd cellsEq_ii, readC, allOne, fillL, resE, tupled, ↓reduceIte, Nat.reduceEqDiff, Int.reduceEq, Int.reduceLT, Int.reduceLE, Nat.reduceAdd, Nat.reduceMul, Nat.reduceLT, Nat.reduceLeDiff, reduceCtorEq, h128, e, purify, unownT, AV.hf]
    | true =>
      cases b with
      | false =>
        have e := checkI_no (n := n) (fun h => by
          have h1 := (ok.1 h).2.2.2.2
          unfold mapOk at h1
          cases ho : ofM n.map with
          | none => rw [ho] at h1; cases h1
          | some t => rw [ho] at hb; cases hb)
        simp (disch := omega) only [wk, avalE, aactE, evPE, boundE, asNat, bv_seql cellsEq_ii, bv_sneqd cellsEq_ii, readC, allOne, fillL, resE, tupled, ↓reduceIte, Nat.reduceEqDiff, Int.reduceEq, Int.reduceLT, Int.reduceLE, Nat.reduceAdd, Nat.reduceMul, Nat.reduceLT, Nat.reduceLeDiff, reduceCtorEq, zi, m1, m2, k1, c10, l1, l2, z, hz, xo, tl, tl2, td, tz, tz2, tdz, one, flat_tab, List.append_nil]
        rw [ret_loop]
        simp (disch := omega) only [wk, avalE, aactE, evPE, boundE, asNat, bv_seql cellsEq_ii, bv_sneqd cellsEq_ii, readC, allOne, fillL, resE, tupled, ↓reduceIte, Nat.reduceEqDiff, Int.reduceEq, Int.reduceLT, Int.reduceLE, Nat.reduceAdd, Nat.reduceMul, Nat.reduceLT, Nat.reduceLeDiff, reduceCtorEq, h128, e, purify, unownT, AV.hf]
      | true =>
        have hof : ofM n.map = some t := by
          cases ho : ofM n.map with
          | none => rw [ho] at hb; cases hb
          | some t' => rw [hbt t' ho]
        have hmo : mapOk n.map n.size = tabOkI t n.size := by unfold mapOk; rw [hof]
        by_cases s1 : 0 ≤ n.size
        case neg =>
          have e := checkI_no (n := n) (fun h => s1 (ok.1 h).2.2.1)
          simp (disch := omega) only [wk, avalE, aactE, evPE, boundE, asNat, bv_seql cellsEq_ii, bv_sneqd cellsEq_ii, readC, allOne, fillL, resE, tupled, ↓reduceIte, Nat.reduceEqDiff, Int.reduceEq, Int.reduceLT, Int.reduceLE, Nat.reduceAdd, Nat.reduceMul, Nat.reduceLT, Nat.reduceLeDiff, reduceCtorEq, zi, m1, m2, k1, c10, l1, l2, z, hz, xo, s1, tl, tl2, td, tz, tz2, tdz, one, flat_tab, List.append_nil]
          rw [ret_loop]
          simp (disch := omega) only [wk, avalE, aactE, evPE, boundE, asNat, bv_seql cellsEq_ii, bv_sneqd cellsEq_ii, readC, allOne, fillL, resE, tupled, ↓reduceIte, Nat.reduceEqDiff, Int.reduceEq, Int.reduceLT, Int.reduceLE, Nat.reduceAdd, Nat.reduceMul, Nat.reduceLT, Nat.reduceLeDiff, reduceCtorEq, h128, e, purify, unownT, AV.hf]
        by_cases s2 : n.size ≤ 65536
        case neg =>
          have e := checkI_no (n := n) (fun h => s2 (ok.1 h).2.2.2.1)
          simp (disch := omega) only [wk, avalE, aactE, evPE, boundE, asNat, bv_seql cellsEq_ii, bv_sneqd cellsEq_ii, readC, allOne, fillL, resE, tupled, ↓reduceIte, Nat.reduceEqDiff, Int.reduceEq, Int.reduceLT, Int.reduceLE, Nat.reduceAdd, Nat.reduceMul, Nat.reduceLT, Nat.reduceLeDiff, reduceCtorEq, zi, m1, m2, k1, c10, l1, l2, z, hz, xo, s1, s2, tl, tl2, td, tz, tz2, tdz, one, flat_tab, List.append_nil]
          rw [ret_loop]
          simp (disch := omega) only [wk, avalE, aactE, evPE, boundE, asNat, bv_seql cellsEq_ii, bv_sneqd cellsEq_ii, readC, allOne, fillL, resE, tupled, ↓reduceIte, Nat.reduceEqDiff, Int.reduceEq, Int.reduceLT, Int.reduceLE, Nat.reduceAdd, Nat.reduceMul, Nat.reduceLT, Nat.reduceLeDiff, reduceCtorEq, h128, e, purify, unownT, AV.hf]
        simp (disch := omega) only [wk, avalE, aactE, evPE, boundE, asNat, bv_seql cellsEq_ii, bv_sneqd cellsEq_ii, readC, allOne, fillL, resE, tupled, ↓reduceIte, Nat.reduceEqDiff, Int.reduceEq, Int.reduceLT, Int.reduceLE, Nat.reduceAdd, Nat.reduceMul, Nat.reduceLT, Nat.reduceLeDiff, reduceCtorEq, zi, m1, m2, k1, c10, l1, l2, z, hz, xo, s1, s2, tl, tl2, td, tz, tz2, tdz, one, flat_tab, List.append_nil]
        refine loop_ind (fun (x : Nat × Bool) E df H => x.1 ≤ 128 ∧ x.2 = ((List.range x.1).all fun i => t.getD i 0 == 0 || decide (512 * (i : Int) < n.size)) ∧ E 1 = .ptr 0 0 ∧ E 4 = .bool x.2 ∧ E 5 = .ptr 1 0 ∧ E 7 = .int .i64 (x.1 : Nat) ∧ df = [] ∧
            H = [.cells [.int .i64 1, .int .i64 n.links, .int .i64 n.size, m, .int .i64 n.root, .int .i64 n.parent, .str n.target], .cells (encs i64A t)])
          (fun x => 128 - x.1) (0, true) (by decide) (.inl rfl) ⟨Nat.zero_le _, rfl, rfl, rfl, rfl, rfl, rfl, rfl⟩ ?_
        intro ⟨j, b⟩ E df H ih hP
        obtain ⟨hj, hb2, E1, E4, E5, E7, hdf, hH⟩ := hP
        dsimp only at hj hb2 E4 E7
        subst hdf hH
        have fin : ∀ b', b' = ((List.range j).all fun i => t.getD i 0 == 0 || decide (512 * (i : Int) < n.size)) → (b' = false ∨ j = 128) → tabOkI t n.size = b' := by
          intro b' h1 h2
          subst h1
          rcases h2 with h2 | h2
          · rw [h2]
            unfold tabOkI
            rw [List.all_eq_false] at h2 ⊢
            obtain ⟨i, hi, h3⟩ := h2
            exact ⟨i, List.mem_range.2 (by have := List.mem_range.1 hi; omega), h3⟩
          · rw [h2]; rfl
        by_cases hj2 : j = 128
        · subst hj2
          have n1 : ¬ (128 : Int) < 128 := by decide
          have hf := fin b hb2 (.inr rfl)
          have e : checkI n = if b then 0 else 240 := by
            cases b with
            | true => exact checkI_ok (ok.2 ⟨⟨l1, l2⟩, hz, s1, s2, by rw [hmo, hf]⟩)
            | false => exact checkI_no (fun h => by have := (ok.1 h).2.2.2.2; rw [hmo, hf] at this; cases this)
          have i128 : ((128 : Nat) : Int) = 128 := rfl
          rw [i128] at E7
          cases b <;> simp (disch := omega) only [wk, avalE, aactE, evPE, boundE, asNat, bv_seql cellsEq_ii, bv_sneqd cellsEq_ii, readC, allOne, fillL, resE, tupled, ↓reduceIte, Nat.reduceEqDiff, Int.reduceEq, Int.reduceLT, Int.reduceLE, Nat.reduceAdd, Nat.reduceMul, Nat.reduceLT, Nat.reduceLeDiff, reduceCtorEq, E1, E4, E5, E7, n1, e, purify, unownT, AV.hf]
        have n1 : (j : Int) < 128 := by omega
        cases b with
        | false =>
          have hf := fin false hb2 (.inl rfl)
          have e := checkI_no (n := n) (fun h => by have := (ok.1 h).2.2.2.2; rw [hmo, hf] at this; cases this)
          simp (disch := omega) only [wk, avalE, aactE, evPE, boundE, asNat, bv_seql cellsEq_ii, bv_sneqd cellsEq_ii, readC, allOne, fillL, resE, tupled, ↓reduceIte, Nat.reduceEqDiff, Int.reduceEq, Int.reduceLT, Int.reduceLE, Nat.reduceAdd, Nat.reduceMul, Nat.reduceLT, Nat.reduceLeDiff, reduceCtorEq, E1, E4, E5, E7, n1, e, purify, unownT, AV.hf]
        | true =>
          have g := getI t j (by omega)
          have st : ((List.range (j + 1)).all fun i => t.getD i 0 == 0 || decide (512 * (i : Int) < n.size)) = (t.getD j 0 == 0 || decide (512 * (j : Int) < n.size)) := by
            rw [List.range_succ, List.all_append, ← hb2]
            simp
          by_cases g0 : t.getD j 0 = 0
          · simp (disch := omega) only [wk, avalE, aactE, evPE, boundE, asNat, bv_seql cellsEq_ii, bv_sneqd cellsEq_ii, readC, allOne, fillL, resE, tupled, ↓reduceIte, Nat.reduceEqDiff, Int.reduceEq, Int.reduceLT, Int.reduceLE, Nat.reduceAdd, Nat.reduceMul, Nat.reduceLT, Nat.reduceLeDiff, reduceCtorEq, E1, E4, E5, E7, n1, g, Nat.zero_add, g0]
            refine ih (j + 1, true) _ _ _ (by show 128 - (j + 1) < 128 - j; omega) ?_
            exact ⟨by show j + 1 ≤ 128; omega, by dsimp only; rw [st, g0]; simp, by simp only [en, ↓reduceIte, Nat.reduceEqDiff, E1], by simp only [en, ↓reduceIte, Nat.reduceEqDiff], by simp only [en, ↓reduceIte, Nat.reduceEqDiff, E5], by simp only [en, ↓reduceIte, Nat.reduceEqDiff], rfl, rfl⟩
          · by_cases g1 : 512 * (j : Int) < n.size
            · simp (disch := omega) only [wk, avalE, aactE, evPE, boundE, asNat, bv_seql cellsEq_ii, bv_sneqd cellsEq_ii, readC, allOne, fillL, resE, tupled, ↓reduceIte, Nat.reduceEqDiff, Int.reduceEq, Int.reduceLT, Int.reduceLE, Nat.reduceAdd, Nat.reduceMul, Nat.reduceLT, Nat.reduceLeDiff, reduceCtorEq, E1, E4, E5, E7, n1, g, Nat.zero_add, g0, g1]
              refine ih (j + 1, true) _ _ _ (by show 128 - (j + 1) < 128 - j; omega) ?_
              exact ⟨by show j + 1 ≤ 128; omega, by dsimp only; rw [st, decide_eq_true g1, Bool.or_true], by simp only [en, ↓reduceIte, Nat.reduceEqDiff, E1], by simp only [en, ↓reduceIte, Nat.reduceEqDiff], by simp only [en, ↓reduceIte, Nat.reduceEqDiff, E5], by simp only [en, ↓reduceIte, Nat.reduceEqDiff], rfl, rfl⟩
            · simp (disch := omega) only [wk, avalE, aactE, evPE, boundE, asNat, bv_seql cellsEq_ii, bv_sneqd cellsEq_ii, readC, allOne, fillL, resE, tupled, ↓reduceIte, Nat.reduceEqDiff, Int.reduceEq, Int.reduceLT, Int.reduceLE, Nat.reduceAdd, Nat.reduceMul, Nat.reduceLT, Nat.reduceLeDiff, reduceCtorEq, E1, E4, E5, E7, n1, g, Nat.zero_add, g0, g1]
              refine ih (j + 1, false) _ _ _ (by show 128 - (j + 1) < 128 - j; omega) ?_
              refine ⟨by show j + 1 ≤ 128; omega, ?_, by simp only [en, ↓reduceIte, Nat.reduceEqDiff, E1], by simp only [en, ↓reduceIte, Nat.reduceEqDiff], by simp only [en, ↓reduceIte, Nat.reduceEqDiff, E5], by simp only [en, ↓reduceIte, Nat.reduceEqDiff], rfl, rfl⟩
              dsimp only; rw [st]
              have g0' : (t.getD j 0 == 0) = false := by simpa using g0
              rw [g0', decide_eq_false g1]; rfl
  by_cases k2 : n.kind = 2
  · have ok := okI_2 k2
    have c20 : ¬ (2 : Int) = 0 := by decide
    have c21 : ¬ (2 : Int) = 1 := by decide
    rw [k2] at z
    by_cases l1 : 0 ≤ n.links
    case neg =>
      have e := checkI_no (n := n) (fun h => l1 (ok.1 h).1.1)
      simp (disch := omega) only [wk, avalE, aactE, evPE, boundE, asNat, bv_seql cellsEq_ii, bv_sneqd cellsEq_ii, readC, allOne, fillL, resE, tupled, ↓reduceIte, Nat.reduceEqDiff, Int.reduceEq, Int.reduceLT, Int.reduceLE, Nat.reduceAdd, Nat.reduceMul, Nat.reduceLT, Nat.reduceLeDiff, reduceCtorEq, zi, m1, m2, k2, c20, c21, l1, e, purify, unownT, AV.hf]
    by_cases l2 : n.links ≤ 65535
    case neg =>
      have e := checkI_no (n := n) (fun h => l2 (ok.1 h).1.2)
      simp (disch := omega) only [wk, avalE, aactE, evPE, boundE, asNat, bv_seql cellsEq_ii, bv_sneqd cellsEq_ii, readC, allOne, fillL, resE, tupled, ↓reduceIte, Nat.reduceEqDiff, Int.reduceEq, Int.reduceLT, Int.reduceLE, Nat.reduceAdd, Nat.reduceMul, Nat.reduceLT, Nat.reduceLeDiff, reduceCtorEq, zi, m1, m2, k2, c20, c21, l1, l2, e, purify, unownT, AV.hf]
    cases hz : zB n false true false with
    | false =>
      have e := checkI_no (n := n) (fun h => by have := (ok.1 h).2.1; rw [hz] at this; cases this)
      simp (disch := omega) only [wk, avalE, aactE, evPE, boundE, asNat, bv_seql cellsEq_ii, bv_sneqd cellsEq_ii, readC, allOne, fillL, resE, tupled, ↓reduceIte, Nat.reduceEqDiff, Int.reduceEq, Int.reduceLT, Int.reduceLE, Nat.reduceAdd, Nat.reduceMul, Nat.reduceLT, Nat.reduceLeDiff, reduceCtorEq, zi, m1, m2, k2, c20, c21, l1, l2, z, hz, e, purify, unownT, AV.hf]
    | true =>
      by_cases s1 : 1 ≤ n.root
      case neg =>
        have e := checkI_no (n := n) (fun h => s1 (ok.1 h).2.2.1)
        simp (disch := omega) only [wk, avalE, aactE, evPE, boundE, asNat, bv_seql cellsEq_ii, bv_sneqd cellsEq_ii, readC, allOne, fillL, resE, tupled, ↓reduceIte, Nat.reduceEqDiff, Int.reduceEq, Int.reduceLT, Int.reduceLE, Nat.reduceAdd, Nat.reduceMul, Nat.reduceLT, Nat.reduceLeDiff, reduceCtorEq, zi, m1, m2, k2, c20, c21, l1, l2, z, hz, s1, e, purify, unownT, AV.hf]
      by_cases s2 : n.root ≤ 2047
      case neg =>
        have e := checkI_no (n := n) (fun h => s2 (ok.1 h).2.2.2.1)
        simp (disch := omega) only [wk, avalE, aactE, evPE, boundE, asNat, bv_seql cellsEq_ii, bv_sneqd cellsEq_ii, readC, allOne, fillL, resE, tupled, ↓reduceIte, Nat.reduceEqDiff, Int.reduceEq, Int.reduceLT, Int.reduceLE, Nat.reduceAdd, Nat.reduceMul, Nat.reduceLT, Nat.reduceLeDiff, reduceCtorEq, zi, m1, m2, k2, c20, c21, l1, l2, z, hz, s1, s2, e, purify, unownT, AV.hf]
      by_cases s3 : 1 ≤ n.parent
      case neg =>
        have e := checkI_no (n := n) (fun h => s3 (ok.1 h).2.2.2.2.1)
        simp (disch := omega) only [wk, avalE, aactE, evPE, boundE, asNat, bv_seql cellsEq_ii, bv_sneqd cellsEq_ii, readC, allOne, fillL, resE, tupled, ↓reduceIte, Nat.reduceEqDiff, Int.reduceEq, Int.reduceLT, Int.reduceLE, Nat.reduceAdd, Nat.reduceMul, Nat.reduceLT, Nat.reduceLeDiff, reduceCtorEq, zi, m1, m2, k2, c20, c21, l1, l2, z, hz, s1, s2, s3, e, purify, unownT, AV.hf]
      by_cases s4 : n.parent ≤ 256
      case neg =>
        have e := checkI_no (n := n) (fun h => s4 (ok.1 h).2.2.2.2.2)
        simp (disch := omega) only [wk, avalE, aactE, evPE, boundE, asNat, bv_seql cellsEq_ii, bv_sneqd cellsEq_ii, readC, allOne, fillL, resE, tupled, ↓reduceIte, Nat.reduceEqDiff, Int.reduceEq, Int.reduceLT, Int.reduceLE, Nat.reduceAdd, Nat.reduceMul, Nat.reduceLT, Nat.reduceLeDiff, reduceCtorEq, zi, m1, m2, k2, c20, c21, l1, l2, z, hz, s1, s2, s3, s4, e, purify, unownT, AV.hf]
      have e := checkI_ok (n := n) (ok.2 ⟨⟨l1, l2⟩, hz, s1, s2, s3, s4⟩)
      simp (disch := omega) only [wk, avalE, aactE, evPE, boundE, asNat, bv_seql cellsEq_ii, bv_sneqd cellsEq_ii, readC, allOne, fillL, resE, tupled, ↓reduceIte, Nat.reduceEqDiff, Int.reduceEq, Int.reduceLT, Int.reduceLE, Nat.reduceAdd, Nat.reduceMul, Nat.reduceLT, Nat.reduceLeDiff, reduceCtorEq, zi, m1, m2, k2, c20, c21, l1, l2, z, hz, s1, s2, s3, s4, e, purify, unownT, AV.hf]
  by_cases k3 : n.kind = 3
  · have ok := okI_3 k3
    have c30 : ¬ (3 : Int) = 0 := by decide
    have c31 : ¬ (3 : Int) = 1 := by decide
    have c32 : ¬ (3 : Int) = 2 := by decide
    have rp := fun H => rplain_px n.target H hs
    rw [k3] at z
    by_cases l1 : 0 ≤ n.links
    case neg =>
      have e := checkI_no (n := n) (fun h => l1 (ok.1 h).1.1)
      simp (disch := omega) only [wk, avalE, aactE, evPE, boundE, asNat, bv_seql cellsEq_ii, bv_sneqd cellsEq_ii, readC, allOne, fillL, resE, tupled, ↓reduceIte, Nat.reduceEqDiff, Int.reduceEq, Int.reduceLT, Int.reduceLE, Nat.reduceAdd, Nat.reduceMul, Nat.reduceLT, Nat.reduceLeDiff, reduceCtorEq, zi, m1, m2, k3, c30, c31, c32, l1, e, purify, unownT, AV.hf]
    by_cases l2 : n.links ≤ 65535
    case neg =>
      have e := checkI_no (n := n) (fun h => l2 (ok.1 h).1.2)
      simp (disch := omega) only [wk, avalE, aactE, evPE, boundE, asNat, bv_seql cellsEq_ii, bv_sneqd cellsEq_ii, readC, allOne, fillL, resE, tupled, ↓reduceIte, Nat.reduceEqDiff, Int.reduceEq, Int.reduceLT, Int.reduceLE, Nat.reduceAdd, Nat.reduceMul, Nat.reduceLT, Nat.reduceLeDiff, reduceCtorEq, zi, m1, m2, k3, c30, c31, c32, l1, l2, e, purify, unownT, AV.hf]
    cases hz : zB n false false true with
    | false =>
      have e := checkI_no (n := n) (fun h => by have := (ok.1 h).2.1; rw [hz] at this; cases this)
      simp (disch := omega) only [wk, avalE, aactE, evPE, boundE, asNat, bv_seql cellsEq_ii, bv_sneqd cellsEq_ii, readC, allOne, fillL, resE, tupled, ↓reduceIte, Nat.reduceEqDiff, Int.reduceEq, Int.reduceLT, Int.reduceLE, Nat.reduceAdd, Nat.reduceMul, Nat.reduceLT, Nat.reduceLeDiff, reduceCtorEq, zi, m1, m2, k3, c30, c31, c32, l1, l2, z, hz, e, purify, unownT, AV.hf]
    | true =>
      by_cases s1 : (1 : Int) ≤ n.target.size
      case neg =>
        have e := checkI_no (n := n) (fun h => s1 (by have := (ok.1 h).2.2.1; omega))
        simp (disch := omega) only [wk, avalE, aactE, evPE, boundE, asNat, bv_seql cellsEq_ii, bv_sneqd cellsEq_ii, readC, allOne, fillL, resE, tupled, ↓reduceIte, Nat.reduceEqDiff, Int.reduceEq, Int.reduceLT, Int.reduceLE, Nat.reduceAdd, Nat.reduceMul, Nat.reduceLT, Nat.reduceLeDiff, reduceCtorEq, zi, m1, m2, k3, c30, c31, c32, l1, l2, z, hz, s1, e, purify, unownT, AV.hf]
      by_cases s2 : (n.target.size : Int) ≤ 112
      case neg =>
        have e := checkI_no (n := n) (fun h => s2 (by have := (ok.1 h).2.2.2.1; omega))
        simp (disch := omega) only [wk, avalE, aactE, evPE, boundE, asNat, bv_seql cellsEq_ii, bv_sneqd cellsEq_ii, readC, allOne, fillL, resE, tupled, ↓reduceIte, Nat.reduceEqDiff, Int.reduceEq, Int.reduceLT, Int.reduceLE, Nat.reduceAdd, Nat.reduceMul, Nat.reduceLT, Nat.reduceLeDiff, reduceCtorEq, zi, m1, m2, k3, c30, c31, c32, l1, l2, z, hz, s1, s2, e, purify, unownT, AV.hf]
      cases s3 : flatM n.target.data.toList with
      | false =>
        have e := checkI_no (n := n) (fun h => by have := (ok.1 h).2.2.2.2; rw [s3] at this; cases this)
        simp (disch := omega) only [wk, avalE, aactE, evPE, boundE, asNat, bv_seql cellsEq_ii, bv_sneqd cellsEq_ii, readC, allOne, fillL, resE, tupled, ↓reduceIte, Nat.reduceEqDiff, Int.reduceEq, Int.reduceLT, Int.reduceLE, Nat.reduceAdd, Nat.reduceMul, Nat.reduceLT, Nat.reduceLeDiff, reduceCtorEq, zi, m1, m2, k3, c30, c31, c32, l1, l2, z, hz, s1, s2, rp, s3, e, purify, unownT, AV.hf]
      | true =>
        have e := checkI_ok (n := n) (ok.2 ⟨⟨l1, l2⟩, hz, by omega, by omega, s3⟩)
        simp (disch := omega) only [wk, avalE, aactE, evPE, boundE, asNat, bv_seql cellsEq_ii, bv_sneqd cellsEq_ii, readC, allOne, fillL, resE, tupled, ↓reduceIte, Nat.reduceEqDiff, Int.reduceEq, Int.reduceLT, Int.reduceLE, Nat.reduceAdd, Nat.reduceMul, Nat.reduceLT, Nat.reduceLeDiff, reduceCtorEq, zi, m1, m2, k3, c30, c31, c32, l1, l2, z, hz, s1, s2, rp, s3, e, purify, unownT, AV.hf]
  have e := checkI_no (n := n) (fun h => by have := okI_kind h; omega)
  by_cases k4 : 0 ≤ n.kind
  · have k5 : ¬ n.kind ≤ 3 := by omega
    simp (disch := omega) only [wk, avalE, aactE, evPE, boundE, asNat, bv_seql cellsEq_ii, bv_sneqd cellsEq_ii, readC, allOne, fillL, resE, tupled, ↓reduceIte, Nat.reduceEqDiff, Int.reduceEq, Int.reduceLT, Int.reduceLE, Nat.reduceAdd, Nat.reduceMul, Nat.reduceLT, Nat.reduceLeDiff, reduceCtorEq, zi, m1, m2, k0, k1, k2, k3, k4, k5, e, purify, unownT, AV.hf]
  · simp (disch := omega) only [wk, avalE, aactE, evPE, boundE, asNat, bv_seql cellsEq_ii, bv_sneqd cellsEq_ii, readC, allOne, fillL, resE, tupled, ↓reduceIte, Nat.reduceEqDiff, Int.reduceEq, Int.reduceLT, Int.reduceLE, Nat.reduceAdd, Nat.reduceMul, Nat.reduceLT, Nat.reduceLeDiff, reduceCtorEq, zi, m1, m2, k0, k1, k2, k3, k4, e, purify, unownT, AV.hf]
end Go.Proofs.Ytncmflmjlocgiaa
