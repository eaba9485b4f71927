/- THE WALKS OF few AND Join. No condition but those stated. -/
import Derived.Test.YtmogflndepihnaaDoorK8
import Derived.Test.YtmogflndepihnaaDoorAmOpen
set_option linter.unusedSimpArgs false
set_option linter.unusedVariables false
set_option linter.unusedSectionVars false
namespace Go.Proofs.YtmogflndepihnaaDoor
open Go Go.Am Go.Rec Go.Nam
set_option maxHeartbeats 4000000
set_option maxRecDepth 10000
/-- What a slice of texts is. -/
theorem ok_strS {v : AV} (h : OkS (.slice [.str]) v) : ∃ (xs : List (List UInt8)) (tk : Tk), v = .sl 1 xs.length (encs strA xs) tk ∧ tk.hf = true ∧ (xs.length : Int) ≤ 9223372036854775807 ∧ ∀ x ∈ xs, (x.length : Int) ≤ 9223372036854775807 := by
  cases h with
  | slnil => exact ⟨[], .z, rfl, rfl, by decide, by simp⟩
  | sl _ rows h hl hr =>
    have key : ∀ rows : List (List AV), (∀ r ∈ rows, r.length = 1) → (∀ r ∈ rows, ∀ (i : Nat) (s : Sh) (v : AV), [Sh.str][i]? = some s → r[i]? = some v → OkS s v) →
        ∃ xs : List (List UInt8), rows.flatten = encs strA xs ∧ xs.length = rows.length ∧ ∀ x ∈ xs, (x.length : Int) ≤ 9223372036854775807 := by
      intro rows
      induction rows with
      | nil => intro _ _; exact ⟨[], rfl, rfl, by simp⟩
      | cons r rs ih =>
        intro hl hr
        obtain ⟨xs, e1, e2, e3⟩ := ih (fun q hq => hl q (List.mem_cons_of_mem _ hq)) (fun q hq => hr q (List.mem_cons_of_mem _ hq))
        have hl1 := hl r List.mem_cons_self
        match r, hl1 with
        | [v], _ =>
          have := hr [v] List.mem_cons_self 0 .str v rfl rfl
          cases this with
          | str s hs =>
            refine ⟨s.data.toList :: xs, ?_, by simp [e2], fun x hx => ?_⟩
            · rw [List.flatten_cons, e1, encs_cons, strA, bs_eta]
            · rcases List.mem_cons.1 hx with rfl | hx
              · rw [size_data]; omega
              · exact e3 x hx
    obtain ⟨xs, e1, e2, e3⟩ := key rows hl hr
    exact ⟨xs, .ro, by rw [e1, e2]; rfl, rfl, by omega, e3⟩
def fewS (xs : List (List UInt8)) : Nat := (xs.map fun x => min x.length 4000).sum
def fewM (xs : List (List UInt8)) : Bool := decide (xs.length ≤ 200) && decide (fewS (xs.take 201) ≤ 3000)
theorem fewS_le (xs : List (List UInt8)) : fewS xs ≤ 4000 * xs.length := by
  induction xs with
  | nil => simp [fewS]
  | cons x r ih => simp only [fewS, List.map_cons, List.sum_cons, List.length_cons] at ih ⊢; omega
theorem few_px (xs : List (List UInt8)) (tk : Tk) (h : (xs.length : Int) ≤ 9223372036854775807) (H : Heap) :
    pcx (cbL tab) 22 [.sl 1 xs.length (encs strA xs) tk] H = some (.plain (.bool (fewM xs))) := by
  obtain ⟨u1, e1, f1⟩ := lend_sl 1 xs.length (encs strA xs) tk
  refine pcx_N rfl (pc_wp (fi := c22) rfl ?_ (by simp [c22]) (by decide) ?_)
  · simp only [pcOn, List.map_cons, List.map_nil, hfL, hf_lend_sl, hf_lend_int, hf_lend_bool, hf_lend_str, hfL_append, Bool.and_self, Bool.and_true, Bool.true_and, c22, hf_strA]
  unfold c22
  rw [List.map_cons, List.map_nil, e1]
  simp (disch := omega) only [wk, avalE, aactE, evPE, boundE, asNat, bv_seql cellsEq_ii, bv_sneqd cellsEq_ii, readC, allOne, fillL, resE, tupled, ↓reduceIte, Nat.reduceEqDiff, Int.reduceEq, Int.reduceLT, Int.reduceLE, Nat.reduceAdd, Nat.reduceMul, Nat.reduceLT, Nat.reduceLeDiff, reduceCtorEq]
  refine loop_ind (fun (x : List (List UInt8) × List (List UInt8)) E df H => xs = x.1 ++ x.2 ∧ x.1.length ≤ 201 ∧ E 0 = .sl 1 xs.length (encs strA xs) u1 ∧ E 3 = .int .i64 (fewS x.1 : Nat) ∧ E 4 = .int .i64 (x.1.length : Nat) ∧ df = [] ∧ H = [])
    (fun x => x.2.length) ([], xs) (by decide) (.inl rfl) ⟨rfl, by simp, rfl, rfl, rfl, rfl, rfl⟩ ?_
  intro ⟨pre, suf⟩ E df H ih hP
  obtain ⟨a1, a2, E0, E3, E4, hdf, hH⟩ := hP
  dsimp only at a1 a2 E3 E4
  subst hdf hH
  have la : xs.length = pre.length + suf.length := by rw [a1, List.length_append]
  have fl := fewS_le pre
  have stop : (suf = [] ∨ pre.length = 201) → fewS pre = fewS (xs.take 201) := by
    intro hs
    rcases hs with hs | hs
    · subst hs; rw [a1, List.append_nil, List.take_of_length_le a2]
    · rw [a1, ← hs, List.take_left]
  by_cases hc : suf = [] ∨ pre.length = 201
  · have st := stop hc
    have hcond : ¬ (pre.length : Int) < (xs.length : Int) ∨ ¬ (pre.length : Int) ≤ 200 := by
      rcases hc with h | h
      · left; subst h; simp at la; omega
      · right; omega
    unfold fewM
    rw [← st]
    have fin : ∀ (E' : Env), E' 0 = .sl 1 xs.length (encs strA xs) u1 → E' 3 = .int .i64 (fewS pre : Nat) → True := fun _ _ _ => trivial
    by_cases h200 : xs.length ≤ 200
    · have h2' : ((xs.length : Nat) : Int) ≤ 200 := by omega
      have n1 : ¬ (pre.length : Int) < (xs.length : Int) := by
        rcases hc with h | h
        · subst h; simp at la; omega
        · omega
      have ed : decide (((fewS pre : Nat) : Int) ≤ 3000) = decide (fewS pre ≤ 3000) := by congr 1; simp only [eq_iff_iff]; omega
      have e200 : decide (xs.length ≤ 200) = true := decide_eq_true h200
      rw [e200, Bool.true_and]
      simp (disch := omega) only [wk, avalE, aactE, evPE, boundE, asNat, bv_seql cellsEq_ii, bv_sneqd cellsEq_ii, readC, allOne, fillL, resE, tupled, ↓reduceIte, Nat.reduceEqDiff, Int.reduceEq, Int.reduceLT, Int.reduceLE, Nat.reduceAdd, Nat.reduceMul, Nat.reduceLT, Nat.reduceLeDiff, reduceCtorEq, E0, E3, E4, n1, h2', ed, purify, unownT, AV.hf]
    · have h2' : ¬ ((xs.length : Nat) : Int) ≤ 200 := by omega
      have e200 : decide (xs.length ≤ 200) = false := decide_eq_false h200
      rw [e200, Bool.false_and]
      by_cases n1 : (pre.length : Int) < (xs.length : Int)
      · have n2 : ¬ (pre.length : Int) ≤ 200 := by
          rcases hcond with h | h
          · exact absurd n1 h
          · exact h
        clear hcond
        simp (disch := omega) only [wk, avalE, aactE, evPE, boundE, asNat, bv_seql cellsEq_ii, bv_sneqd cellsEq_ii, readC, allOne, fillL, resE, tupled, ↓reduceIte, Nat.reduceEqDiff, Int.reduceEq, Int.reduceLT, Int.reduceLE, Nat.reduceAdd, Nat.reduceMul, Nat.reduceLT, Nat.reduceLeDiff, reduceCtorEq, E0, E3, E4, n1, n2, h2', purify, unownT, AV.hf]
      · clear hcond
        simp (disch := omega) only [wk, avalE, aactE, evPE, boundE, asNat, bv_seql cellsEq_ii, bv_sneqd cellsEq_ii, readC, allOne, fillL, resE, tupled, ↓reduceIte, Nat.reduceEqDiff, Int.reduceEq, Int.reduceLT, Int.reduceLE, Nat.reduceAdd, Nat.reduceMul, Nat.reduceLT, Nat.reduceLeDiff, reduceCtorEq, E0, E3, E4, n1, h2', purify, unownT, AV.hf]
  · obtain ⟨x, r, rfl⟩ : ∃ x r, suf = x :: r := by
      cases suf with
      | nil => exact absurd (.inl rfl) hc
      | cons x r => exact ⟨x, r, rfl⟩
    have hp : pre.length ≠ 201 := fun e => hc (.inr e)
    simp only [List.length_cons] at la
    have n1 : (pre.length : Int) < (xs.length : Int) := by omega
    have n2 : (pre.length : Int) ≤ 200 := by omega
    have d1 : List.drop pre.length (encs strA xs) = .str (bs x) :: encs strA r := by
      have := drop_pre (f := strA) pre (x :: r)
      rw [Nat.mul_one] at this
      rw [a1, this]; rfl
    have fs : fewS (pre ++ [x]) = fewS pre + min x.length 4000 := by simp [fewS]
    clear hc stop
    by_cases h4 : (4000 : Int) < (x.length : Nat)
    · have em : min x.length 4000 = 4000 := by omega
      rw [em] at fs
      have ev : ((fewS pre + 4000 : Nat) : Int) = ((fewS pre : Nat) : Int) + 4000 := rfl
      simp (disch := omega) only [wk, avalE, aactE, evPE, boundE, asNat, bv_seql cellsEq_ii, bv_sneqd cellsEq_ii, readC, allOne, fillL, resE, tupled, ↓reduceIte, Nat.reduceEqDiff, Int.reduceEq, Int.reduceLT, Int.reduceLE, Nat.reduceAdd, Nat.reduceMul, Nat.reduceLT, Nat.reduceLeDiff, reduceCtorEq, E0, E3, E4, n1, n2, d1, bs_size, h4]
      refine ih (pre ++ [x], r) _ _ _ (by simp) ?_
      exact ⟨by simp [a1], by dsimp only; rw [List.length_append]; simp; omega, by simp only [en, ↓reduceIte, Nat.reduceEqDiff, E0], by dsimp only; rw [fs, ev]; simp only [en, ↓reduceIte, Nat.reduceEqDiff], by simp only [en, ↓reduceIte, Nat.reduceEqDiff], rfl, rfl⟩
    · have em : min x.length 4000 = x.length := by omega
      rw [em] at fs
      simp (disch := omega) only [wk, avalE, aactE, evPE, boundE, asNat, bv_seql cellsEq_ii, bv_sneqd cellsEq_ii, readC, allOne, fillL, resE, tupled, ↓reduceIte, Nat.reduceEqDiff, Int.reduceEq, Int.reduceLT, Int.reduceLE, Nat.reduceAdd, Nat.reduceMul, Nat.reduceLT, Nat.reduceLeDiff, reduceCtorEq, E0, E3, E4, n1, n2, d1, bs_size, h4]
      refine ih (pre ++ [x], r) _ _ _ (by simp) ?_
      exact ⟨by simp [a1], by dsimp only; rw [List.length_append]; simp; omega, by simp only [en, ↓reduceIte, Nat.reduceEqDiff, E0], by dsimp only; rw [fs]; simp only [en, ↓reduceIte, Nat.reduceEqDiff]; rfl, by simp only [en, ↓reduceIte, Nat.reduceEqDiff], rfl, rfl⟩
def partE (p : List UInt8) : Int := if dotsM (bs p) then 0 else nameM (bs p)
def firstE : List (List UInt8) → Int
  | [] => 0
  | p :: r => if partE p = 0 then firstE r else partE p
def joinV (ps : List (List UInt8)) : AV := if firstE ps = 0 then (if 1000 < (joinM ps).length then .tup [eS, .int .i64 3] else .tup [.str (bs (joinM ps)), .int .i64 0]) else .tup [eS, .int .i64 (firstE ps)]
theorem nameM_dots {s : ByteArray} (h : dotsM s = true) : nameM s = 140 := if_pos (.inr (.inl h))
theorem part_px (p : List UInt8) (hn : p.length ≤ 5000) (H : Heap) : pcx (cbL tab) 64 [.str (bs p)] H = some (.plain (.int .i64 (partE p))) := by
  refine pcx_N rfl (pc_wp (fi := c64) rfl rfl (by simp [c64]) (by decide) ?_)
  unfold c64
  rw [List.map_cons, List.map_nil, lend_str]
  have d := fun H => dots_px (bs p) H
  have r := fun H => rcheck_px (bs p) H (by rw [bs_size]; exact hn)
  unfold partE
  cases hd : dotsM (bs p) <;> rw [hd] at d <;> simp (disch := omega) only [wk, avalE, aactE, evPE, boundE, asNat, bv_seql cellsEq_ii, bv_sneqd cellsEq_ii, readC, allOne, fillL, resE, tupled, ↓reduceIte, Nat.reduceEqDiff, Int.reduceEq, Int.reduceLT, Int.reduceLE, Nat.reduceAdd, Nat.reduceMul, Nat.reduceLT, Nat.reduceLeDiff, reduceCtorEq, d, r, purify, unownT, AV.hf, Bool.false_eq_true]
theorem join_px (ps : List (List UInt8)) (tk : Tk) (h1 : ps.length ≤ 1000) (h2 : (joinS ps).length ≤ 1000000) (H : Heap) : pcx (cbL tab) 23 [.sl 1 ps.length (encs strA ps) tk] H = some (.plain (joinV ps)) := by
  obtain ⟨u1, e1, f1⟩ := lend_sl 1 ps.length (encs strA ps) tk
  refine pcx_N rfl (pc_wp (fi := c23) rfl ?_ (by simp [c23]) (by decide) ?_)
  · simp only [pcOn, List.map_cons, List.map_nil, hfL, hf_lend_sl, hf_lend_int, hf_lend_bool, hf_lend_str, hfL_append, Bool.and_self, Bool.and_true, Bool.true_and, c23, hf_strA]
  unfold c23
  rw [List.map_cons, List.map_nil, e1]
  simp (disch := omega) only [wk, avalE, aactE, evPE, boundE, asNat, bv_seql cellsEq_ii, bv_sneqd cellsEq_ii, readC, allOne, fillL, resE, tupled, ↓reduceIte, Nat.reduceEqDiff, Int.reduceEq, Int.reduceLT, Int.reduceLE, Nat.reduceAdd, Nat.reduceMul, Nat.reduceLT, Nat.reduceLeDiff, reduceCtorEq]
  refine loop_ind (fun (x : List (List UInt8) × List (List UInt8)) E df H => ps = x.1 ++ x.2 ∧ firstE ps = firstE x.2 ∧ E 0 = .sl 1 ps.length (encs strA ps) u1 ∧ E 8 = .sl 1 ps.length (encs strA ps) u1 ∧ E 9 = .int .i64 (ps.length : Nat) ∧ E 10 = .int .i64 (x.1.length : Nat) ∧ df = [] ∧ H = [])
    (fun x => x.2.length) ([], ps) (by decide) (.inl rfl) ⟨rfl, rfl, rfl, rfl, rfl, rfl, rfl, rfl⟩ ?_
  intro ⟨pre, suf⟩ E df H ih hP
  obtain ⟨a1, a2, E0, E8, E9, E10, hdf, hH⟩ := hP
  dsimp only at a1 a2 E10
  subst hdf hH
  have la : ps.length = pre.length + suf.length := by rw [a1, List.length_append]
  cases suf with
  | nil =>
    have n1 : ¬ (pre.length : Int) < (ps.length : Int) := by simp at la; omega
    have f0 : firstE ps = 0 := a2
    unfold joinV
    rw [f0]
    have j := fun H => joined_px ps 1 (encs strA ps) u1 (List.take_of_length_le (by rw [lenS]; exact Nat.le_refl _)) (fun _ => rfl) (by omega) (by omega) H
    have e00 : (0 : Int) = 0 := rfl
    by_cases hl : 1000 < (joinM ps).length
    · have hl' : (1000 : Int) < ((joinM ps).length : Nat) := by omega
      simp (disch := omega) only [wk, avalE, aactE, evPE, boundE, asNat, bv_seql cellsEq_ii, bv_sneqd cellsEq_ii, readC, allOne, fillL, resE, tupled, ↓reduceIte, Nat.reduceEqDiff, Int.reduceEq, Int.reduceLT, Int.reduceLE, Nat.reduceAdd, Nat.reduceMul, Nat.reduceLT, Nat.reduceLeDiff, reduceCtorEq, E0, E8, E9, E10, n1, j, bs_size, hl, hl', eS, purify, unownT, unown, AV.hf, hfL]
    · have hl' : ¬ (1000 : Int) < ((joinM ps).length : Nat) := by omega
      simp (disch := omega) only [wk, avalE, aactE, evPE, boundE, asNat, bv_seql cellsEq_ii, bv_sneqd cellsEq_ii, readC, allOne, fillL, resE, tupled, ↓reduceIte, Nat.reduceEqDiff, Int.reduceEq, Int.reduceLT, Int.reduceLE, Nat.reduceAdd, Nat.reduceMul, Nat.reduceLT, Nat.reduceLeDiff, reduceCtorEq, E0, E8, E9, E10, n1, j, bs_size, hl, hl', purify, unownT, unown, AV.hf, hfL]
  | cons x r =>
    simp only [List.length_cons] at la
    have n1 : (pre.length : Int) < (ps.length : Int) := by omega
    have d1 : List.drop pre.length (encs strA ps) = .str (bs x) :: encs strA r := by
      have := drop_pre (f := strA) pre (x :: r)
      rw [Nat.mul_one] at this
      rw [a1, this]; rfl
    have ck := fun H => ncheck_px (bs x) H
    have dt := fun H => dots2_px (bs x) H
    by_cases hp : partE x = 0
    · have f2 : firstE ps = firstE r := by rw [a2, firstE, if_pos hp]
      cases hd : dotsM (bs x) with
      | true =>
        rw [hd] at dt
        have hn := nameM_dots hd
        rw [hn] at ck
        have h140 : ¬ (140 : Int) = 0 := by decide
        simp (disch := omega) only [wk, avalE, aactE, evPE, boundE, asNat, bv_seql cellsEq_ii, bv_sneqd cellsEq_ii, readC, allOne, fillL, resE, tupled, ↓reduceIte, Nat.reduceEqDiff, Int.reduceEq, Int.reduceLT, Int.reduceLE, Nat.reduceAdd, Nat.reduceMul, Nat.reduceLT, Nat.reduceLeDiff, reduceCtorEq, E0, E8, E9, E10, n1, d1, ck, dt, h140]
        refine ih (pre ++ [x], r) _ _ _ (by simp) ?_
        exact ⟨by simp [a1], f2, by simp only [en, ↓reduceIte, Nat.reduceEqDiff, E0], by simp only [en, ↓reduceIte, Nat.reduceEqDiff, E8], by simp only [en, ↓reduceIte, Nat.reduceEqDiff, E9], by simp only [en, ↓reduceIte, Nat.reduceEqDiff], rfl, rfl⟩
      | false =>
        have hn : nameM (bs x) = 0 := by unfold partE at hp; rw [hd] at hp; exact hp
        rw [hn] at ck
        simp (disch := omega) only [wk, avalE, aactE, evPE, boundE, asNat, bv_seql cellsEq_ii, bv_sneqd cellsEq_ii, readC, allOne, fillL, resE, tupled, ↓reduceIte, Nat.reduceEqDiff, Int.reduceEq, Int.reduceLT, Int.reduceLE, Nat.reduceAdd, Nat.reduceMul, Nat.reduceLT, Nat.reduceLeDiff, reduceCtorEq, E0, E8, E9, E10, n1, d1, ck]
        refine ih (pre ++ [x], r) _ _ _ (by simp) ?_
        exact ⟨by simp [a1], f2, by simp only [en, ↓reduceIte, Nat.reduceEqDiff, E0], by simp only [en, ↓reduceIte, Nat.reduceEqDiff, E8], by simp only [en, ↓reduceIte, Nat.reduceEqDiff, E9], by simp only [en, ↓reduceIte, Nat.reduceEqDiff], rfl, rfl⟩
    · have f2 : firstE ps = partE x := by rw [a2, firstE, if_neg hp]
      have hd : dotsM (bs x) = false := by
        cases hd : dotsM (bs x) with
        | false => rfl
        | true => exfalso; apply hp; unfold partE; rw [hd]; rfl
      have hn : nameM (bs x) = partE x := by unfold partE; rw [hd]; rfl
      rw [hd] at dt
      rw [hn] at ck
      unfold joinV
      rw [f2, if_neg hp]
      simp (disch := omega) only [wk, avalE, aactE, evPE, boundE, asNat, bv_seql cellsEq_ii, bv_sneqd cellsEq_ii, readC, allOne, fillL, resE, tupled, ↓reduceIte, Nat.reduceEqDiff, Int.reduceEq, Int.reduceLT, Int.reduceLE, Nat.reduceAdd, Nat.reduceMul, Nat.reduceLT, Nat.reduceLeDiff, reduceCtorEq, E0, E8, E9, E10, n1, d1, ck, dt, hp, eS, purify, unownT, unown, AV.hf, hfL]
theorem rjoin_px (ps : List (List UInt8)) (tk : Tk) (hp5 : ∀ p ∈ ps, p.length ≤ 5000) (h1 : ps.length ≤ 1000) (h2 : (joinS ps).length ≤ 1000000) (H : Heap) : pcx (cbL tab) 24 [.sl 1 ps.length (encs strA ps) tk] H = some (.plain (joinV ps)) := by
  obtain ⟨u1, e1, f1⟩ := lend_sl 1 ps.length (encs strA ps) tk
  refine pcx_N rfl (pc_wp (fi := c24) rfl ?_ (by simp [c24]) (by decide) ?_)
  · simp only [pcOn, List.map_cons, List.map_nil, hfL, hf_lend_sl, hf_lend_int, hf_lend_bool, hf_lend_str, hfL_append, Bool.and_self, Bool.and_true, Bool.true_and, c24, hf_strA]
  unfold c24
  rw [List.map_cons, List.map_nil, e1]
  simp (disch := omega) only [wk, avalE, aactE, evPE, boundE, asNat, bv_seql cellsEq_ii, bv_sneqd cellsEq_ii, readC, allOne, fillL, resE, tupled, ↓reduceIte, Nat.reduceEqDiff, Int.reduceEq, Int.reduceLT, Int.reduceLE, Nat.reduceAdd, Nat.reduceMul, Nat.reduceLT, Nat.reduceLeDiff, reduceCtorEq]
  refine loop_ind (fun (x : List (List UInt8) × List (List UInt8)) E df H => ps = x.1 ++ x.2 ∧ firstE ps = firstE x.2 ∧ E 0 = .sl 1 ps.length (encs strA ps) u1 ∧ E 4 = .int .i64 (min 2000 (sumP x.1) : Nat) ∧ E 5 = .int .i64 (x.1.length : Nat) ∧ df = [] ∧ H = [])
    (fun x => x.2.length) ([], ps) (by decide) (.inl rfl) ⟨rfl, rfl, rfl, rfl, rfl, rfl, rfl⟩ ?_
  intro ⟨pre, suf⟩ E df H ih hP
  obtain ⟨a1, a2, E0, E4, E5, hdf, hH⟩ := hP
  dsimp only at a1 a2 E4 E5
  subst hdf hH
  have la : ps.length = pre.length + suf.length := by rw [a1, List.length_append]
  cases suf with
  | nil =>
    have n1 : ¬ (pre.length : Int) < (ps.length : Int) := by simp at la; omega
    rw [List.append_nil] at a1
    subst a1
    have f0 : firstE ps = 0 := a2
    unfold joinV
    rw [f0]
    have hjl : 1000 < (joinM ps).length ↔ 1000 < min 2000 (sumP ps) := by
      unfold joinM
      by_cases h : ps = []
      · rw [if_pos h, h]; simp [sumP]
      · rw [if_neg h, joinS_len]; omega
    have j := fun H => rjoined_px ps 1 (encs strA ps) u1 ⟨[], by simp, rfl⟩ (fun _ => rfl) (by omega) (by omega) H
    by_cases hl : 1000 < (joinM ps).length
    · have hl' : (1000 : Int) < ((min 2000 (sumP ps) : Nat) : Int) := by have := hjl.1 hl; omega
      simp (disch := omega) only [wk, avalE, aactE, evPE, boundE, asNat, bv_seql cellsEq_ii, bv_sneqd cellsEq_ii, readC, allOne, fillL, resE, tupled, ↓reduceIte, Nat.reduceEqDiff, Int.reduceEq, Int.reduceLT, Int.reduceLE, Nat.reduceAdd, Nat.reduceMul, Nat.reduceLT, Nat.reduceLeDiff, reduceCtorEq, E0, E4, E5, n1, j, hl, hl', eS, purify, unownT, unown, AV.hf, hfL]
    · have hl' : ¬ (1000 : Int) < ((min 2000 (sumP ps) : Nat) : Int) := by intro h; exact hl (hjl.2 (by omega))
      simp (disch := omega) only [wk, avalE, aactE, evPE, boundE, asNat, bv_seql cellsEq_ii, bv_sneqd cellsEq_ii, readC, allOne, fillL, resE, tupled, ↓reduceIte, Nat.reduceEqDiff, Int.reduceEq, Int.reduceLT, Int.reduceLE, Nat.reduceAdd, Nat.reduceMul, Nat.reduceLT, Nat.reduceLeDiff, reduceCtorEq, E0, E4, E5, n1, j, hl, hl', purify, unownT, unown, AV.hf, hfL]
  | cons x r =>
    simp only [List.length_cons] at la
    have n1 : (pre.length : Int) < (ps.length : Int) := by omega
    have d1 : List.drop pre.length (encs strA ps) = .str (bs x) :: encs strA r := by
      have := drop_pre (f := strA) pre (x :: r)
      rw [Nat.mul_one] at this
      rw [a1, this]; rfl
    have hx5 := hp5 x (by rw [a1]; simp)
    have pt := fun H => part_px x hx5 H
    have sp : sumP (pre ++ [x]) = sumP pre + (x.length + 1) := by simp [sumP]
    by_cases hp : partE x = 0
    · have f2 : firstE ps = firstE r := by rw [a2, firstE, if_pos hp]
      rw [hp] at pt
      generalize hm : min 2000 (sumP pre) = mm at E4
      by_cases hlt : (mm : Int) + 1 + (x.length : Nat) < 2000
      · have e2 : min 2000 (sumP (pre ++ [x])) = mm + 1 + x.length := by omega
        simp (disch := omega) only [wk, avalE, aactE, evPE, boundE, asNat, bv_seql cellsEq_ii, bv_sneqd cellsEq_ii, readC, allOne, fillL, resE, tupled, ↓reduceIte, Nat.reduceEqDiff, Int.reduceEq, Int.reduceLT, Int.reduceLE, Nat.reduceAdd, Nat.reduceMul, Nat.reduceLT, Nat.reduceLeDiff, reduceCtorEq, E0, E4, E5, n1, d1, pt, bs_size, hlt]
        refine ih (pre ++ [x], r) _ _ _ (by simp) ?_
        exact ⟨by simp [a1], f2, by simp only [en, ↓reduceIte, Nat.reduceEqDiff, E0], by dsimp only; rw [e2]; simp only [en, ↓reduceIte, Nat.reduceEqDiff]; rfl, by simp only [en, ↓reduceIte, Nat.reduceEqDiff], rfl, rfl⟩
      · have e2 : min 2000 (sumP (pre ++ [x])) = 2000 := by omega
        have ev : ((2000 : Nat) : Int) = 2000 := rfl
        simp (disch := omega) only [wk, avalE, aactE, evPE, boundE, asNat, bv_seql cellsEq_ii, bv_sneqd cellsEq_ii, readC, allOne, fillL, resE, tupled, ↓reduceIte, Nat.reduceEqDiff, Int.reduceEq, Int.reduceLT, Int.reduceLE, Nat.reduceAdd, Nat.reduceMul, Nat.reduceLT, Nat.reduceLeDiff, reduceCtorEq, E0, E4, E5, n1, d1, pt, bs_size, hlt]
        refine ih (pre ++ [x], r) _ _ _ (by simp) ?_
        exact ⟨by simp [a1], f2, by simp only [en, ↓reduceIte, Nat.reduceEqDiff, E0], by dsimp only; rw [e2, ev]; simp only [en, ↓reduceIte, Nat.reduceEqDiff], by simp only [en, ↓reduceIte, Nat.reduceEqDiff], rfl, rfl⟩
    · have f2 : firstE ps = partE x := by rw [a2, firstE, if_neg hp]
      unfold joinV
      rw [f2, if_neg hp]
      simp (disch := omega) only [wk, avalE, aactE, evPE, boundE, asNat, bv_seql cellsEq_ii, bv_sneqd cellsEq_ii, readC, allOne, fillL, resE, tupled, ↓reduceIte, Nat.reduceEqDiff, Int.reduceEq, Int.reduceLT, Int.reduceLE, Nat.reduceAdd, Nat.reduceMul, Nat.reduceLT, Nat.reduceLeDiff, reduceCtorEq, E0, E4, E5, n1, d1, pt, hp, eS, purify, unownT, unown, AV.hf, hfL]
end Go.Proofs.YtmogflndepihnaaDoor
