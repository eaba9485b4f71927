/- THE LAW NamesParts COMES TO true. No condition but those stated. -/
import Derived.Test.YtmogflndepihnaaDoorK11
set_option linter.unusedSimpArgs false
set_option linter.unusedVariables false
set_option linter.unusedSectionVars false
namespace Go.Proofs.YtmogflndepihnaaDoor
open Go Go.Am Go.Rec Go.Nam
set_option maxHeartbeats 4000000
set_option maxRecDepth 10000
def paAs : ACode := (.seq (.region [⟨(.some 12), (.mv (.t 47)), .none⟩]) (.region [⟨(.some 13), (.mv (.t 48)), .none⟩]))
def paBd : ACode := (.block 3 (.seq (.seq (.region [⟨(.some 49), (.mv (.t 12)), .none⟩, ⟨(.some 50), (.load 1 false (.t 11)), .none⟩, ⟨(.some 51), (.bin .neq .num (.t 49) (.t 50)), .none⟩, ⟨(.some 52), (.mv (.t 51)), .none⟩, ⟨(.some 53), (.load 1 false (.t 11)), (.some (52, false))⟩, ⟨(.some 54), (.load 1 false (.t 7)), (.some (52, false))⟩, ⟨(.some 55), (.len 0 (.t 54)), (.some (52, false))⟩, ⟨(.some 56), (.bin .geq .num (.t 53) (.t 55)), (.some (52, false))⟩, ⟨(.some 57), (.pick (.t 52) (.c (.bool true)) (.t 56)), .none⟩, ⟨(.some 58), (.mv (.t 57)), .none⟩, ⟨(.some 59), (.mv (.t 13)), (.some (58, false))⟩, ⟨(.some 60), (.load 1 false (.t 7)), (.some (58, false))⟩, ⟨(.some 61), (.load 1 false (.t 11)), (.some (58, false))⟩, ⟨(.some 62), (.ixa 1 (.t 60) (.t 61)), (.some (58, false))⟩, ⟨(.some 63), (.load 1 false (.t 62)), (.some (58, false))⟩, ⟨(.some 64), (.bin .neq .str (.t 59) (.t 63)), (.some (58, false))⟩, ⟨(.some 65), (.pick (.t 58) (.c (.bool true)) (.t 64)), .none⟩]) (.cond (.t 65) (.seq (.region [⟨.none, (.store 1 (.t 4) (.c (.bool false))), .none⟩]) .ret) .skip)) (.seq (.region [⟨(.some 66), (.load 1 false (.t 11)), .none⟩, ⟨(.some 67), (.bin .add .num (.t 66) (.c (.int .i64 1))), .none⟩, ⟨.none, (.store 1 (.t 11) (.t 67)), .none⟩]) (.seq (.region [⟨(.some 68), (.load 1 false (.t 10)), .none⟩, ⟨(.some 69), (.bin .eql .num (.t 68) (.c (.int .i64 0))), .none⟩, ⟨(.some 70), (.mv (.t 69)), .none⟩, ⟨(.some 71), (.load 1 false (.t 11)), (.some (70, true))⟩, ⟨(.some 72), (.load 1 false (.t 3)), (.some (70, true))⟩, ⟨(.some 73), (.bin .geq .num (.t 71) (.t 72)), (.some (70, true))⟩, ⟨(.some 74), (.pick (.t 70) (.t 73) (.c (.bool false))), .none⟩]) (.cond (.t 74) (.exit 2) .skip)))))
/-- Each, told apart: what holds while it goes on, and where it was left. -/
theorem each1_ic2 {σ : Type} (R : Nat → σ → Heap → Prop) (F : σ → Heap → Prop) (stp : σ → Nat → List UInt8 → σ × Bool) (id a : Nat) (L : List (List UInt8)) (hL : L.length ≤ 10000) (s : Nat) (tk : Tk) (hs : L ≠ [] → s = 1)
    (hstep : ∀ (q : σ) (H : Heap) (j : Nat) (x : List UInt8), L[j]? = some x → R j q H → ∃ H', (cbL tab).yl id [.int .i64 (j : Nat), .str (bs x)] H = some (.ret (.bool (stp q j x).2), H') ∧ if (stp q j x).2 then R (j + 1) (stp q j x).1 H' else F (stp q j x).1 H')
    (q0 : σ) (H : Heap) (hR : R 0 q0 H) (ha : H[a]? = some (.cells [.sl s L.length (encs strA L) tk])) :
    ∃ o H', (cbL tab).ic 61 [.yld id, .ptr a 0] H = some (o, H') ∧ o = .ret (.tup []) ∧ (R L.length (runJ stp q0 0 L) H' ∨ F (runJ stp q0 0 L) H') := by
  refine ic_wp (fi := c61) rfl (by simp [pcOn, c61, lend, unown, hfL, AV.hf]) (by simp [c61]) (by decide) ?_
  unfold c61
  simp (disch := omega) only [wk, avalE, aactE, evPE, boundE, asNat, bv_seql cellsEq_ii, bv_sneqd cellsEq_ii, readC, allOne, fillL, resE, tupled, ↓reduceIte, Nat.reduceEqDiff, Int.reduceEq, Int.reduceLT, Int.reduceLE, Nat.reduceAdd, Nat.reduceMul, Nat.reduceLT, Nat.reduceLeDiff, reduceCtorEq, ha]
  refine loop_ind (fun (x : List (List UInt8) × List (List UInt8) × σ) E df H => L = x.1 ++ x.2.1 ∧ runJ stp q0 0 L = runJ stp x.2.2 x.1.length x.2.1 ∧ E 0 = .yld id ∧ E 5 = .sl s L.length (encs strA L) tk ∧ E 6 = .int .i64 (L.length : Nat) ∧ E 7 = .int .i64 (x.1.length : Nat) ∧ df = [] ∧ R x.1.length x.2.2 H)
    (fun x => x.2.1.length) ([], L, q0) (by decide) (.inl rfl) ⟨rfl, rfl, rfl, rfl, rfl, rfl, rfl, hR⟩ ?_
  intro ⟨pre, suf, q⟩ F0 df H1 ih hP
  obtain ⟨a1, a2, E0, E5, E6, E7, hdf, hR1⟩ := hP
  dsimp only at a1 a2 E7 hR1
  subst hdf
  have la : L.length = pre.length + suf.length := by rw [a1, List.length_append]
  cases suf with
  | nil =>
    have n1 : ¬ (pre.length : Int) < (L.length : Int) := by simp at la; omega
    have lp : pre.length = L.length := by simp at la; omega
    rw [runJ] at a2
    simp (disch := omega) only [wk, avalE, aactE, evPE, boundE, asNat, bv_seql cellsEq_ii, bv_sneqd cellsEq_ii, readC, allOne, fillL, resE, tupled, ↓reduceIte, Nat.reduceEqDiff, Int.reduceEq, Int.reduceLT, Int.reduceLE, Nat.reduceAdd, Nat.reduceMul, Nat.reduceLT, Nat.reduceLeDiff, reduceCtorEq, E0, E5, E6, E7, n1]
    rw [a2, ← lp]
    exact .inl hR1
  | cons x r =>
    have hs1 := hs (by rw [a1]; simp)
    subst hs1
    simp only [List.length_cons] at la
    have d1 : List.drop pre.length (encs strA L) = .str (bs x) :: encs strA r := by
      have := drop_pre (f := strA) pre (x :: r)
      rw [Nat.mul_one] at this
      rw [a1, this]; rfl
    have n1 : (pre.length : Int) < (L.length : Int) := by omega
    obtain ⟨H2, y1, y2⟩ := hstep q H1 pre.length x (by rw [a1, List.getElem?_append_right (Nat.le_refl _), Nat.sub_self]; rfl) hR1
    rw [runJ] at a2
    cases hb : (stp q pre.length x).2 with
    | true =>
      rw [hb] at y1 y2 a2
      simp only [if_true] at a2 y2
      simp (disch := omega) only [wk, avalE, aactE, evPE, boundE, asNat, bv_seql cellsEq_ii, bv_sneqd cellsEq_ii, readC, allOne, fillL, resE, tupled, ↓reduceIte, Nat.reduceEqDiff, Int.reduceEq, Int.reduceLT, Int.reduceLE, Nat.reduceAdd, Nat.reduceMul, Nat.reduceLT, Nat.reduceLeDiff, reduceCtorEq, E0, E5, E6, E7, n1, d1, y1, Bool.not_true]
      refine ih (pre ++ [x], r, (stp q pre.length x).1) _ _ _ (by simp) ?_
      exact ⟨by simp [a1], by dsimp only; rw [a2, List.length_append]; rfl, by simp only [en, ↓reduceIte, Nat.reduceEqDiff, E0], by simp only [en, ↓reduceIte, Nat.reduceEqDiff, E5], by simp only [en, ↓reduceIte, Nat.reduceEqDiff, E6], by simp only [en, ↓reduceIte, Nat.reduceEqDiff], rfl, by dsimp only; rw [List.length_append]; exact y2⟩
    | false =>
      rw [hb] at y1 y2 a2
      simp only [Bool.false_eq_true, if_false] at a2 y2
      simp (disch := omega) only [wk, avalE, aactE, evPE, boundE, asNat, bv_seql cellsEq_ii, bv_sneqd cellsEq_ii, readC, allOne, fillL, resE, tupled, ↓reduceIte, Nat.reduceEqDiff, Int.reduceEq, Int.reduceLT, Int.reduceLE, Nat.reduceAdd, Nat.reduceMul, Nat.reduceLT, Nat.reduceLeDiff, reduceCtorEq, E0, E5, E6, E7, n1, d1, y1, Bool.not_false]
      rw [a2]
      exact .inr y2
def paStp (tn : Bool) (many : Int) (q j : Nat) (x : List UInt8) : Nat × Bool := (q + 1, tn || !decide (many ≤ (q : Int) + 1))
def paHp (tn : Bool) (many : Int) (wv rv : AV) (n0 lo0 : AObj) (n : Nat) (lo : AObj) : Heap :=
  if tn then [.cells [.int .i64 many], .cells [.bool false], .cells [wv], .cells [rv], .cells [.int .i64 0], n0, .defd, lo0, .cells [.int .i64 1], .cells [.int .i64 (n : Nat)], .defd, lo]
  else [.cells [.int .i64 many], .cells [.bool false], .cells [wv], .cells [rv], .cells [.int .i64 0], .cells [.int .i64 (n : Nat)], .defd, lo]
theorem pa_round {tn : Bool} {many : Int} {s2 : Nat} {t2 : Tk} {L : List (List UInt8)} {rv : AV} {n0 lo0 : AObj} {E : Env} {tm : List AV} (hL : L.length ≤ 10000) (ha : Ag 98 tm E) (hs : L ≠ [] → s2 = 1)
    (E3 : E 3 = .ptr 0 0) (E4 : E 4 = .ptr 1 0) (E7 : E 7 = .ptr 2 0) (E10 : E 10 = .ptr (if tn then 8 else 4) 0) (E11 : E 11 = .ptr (if tn then 9 else 5) 0) (j : Nat) (x : List UInt8) (hx : L[j]? = some x) :
    ∃ H', (cbL tab).yl (if tn then 11 else 7) [.int .i64 (j : Nat), .str (bs x)] (paHp tn many (.sl s2 L.length (encs strA L) t2) rv n0 lo0 j (.loop 0 .normal tm [47, 48] paAs paBd)) = some (.ret (.bool (paStp tn many j j x).2), H') ∧
      H' = paHp tn many (.sl s2 L.length (encs strA L) t2) rv n0 lo0 (j + 1) (if (paStp tn many j j x).2 then .loop 0 .normal tm [47, 48] paAs paBd else .loop 2 (.exit 2) tm [47, 48] paAs paBd) := by
  obtain ⟨hlt, hxe⟩ := List.getElem?_eq_some_iff.1 hx
  have hs1 := hs (by intro e; subst e; simp at hlt)
  subst hs1
  have d1 : List.drop j (encs strA L) = .str (bs x) :: encs strA (L.drop (j + 1)) := by
    have := encs_drop (f := strA) L j
    rw [Nat.mul_one] at this
    rw [this, List.drop_eq_getElem_cons hlt, hxe]; rfl
  have n1 : (j : Int) < (L.length : Int) := by omega
  have n2 : ¬ (L.length : Int) ≤ (j : Int) := by omega
  have hxx : (x == x) = true := beq_self_eq_true x
  cases tn with
  | false =>
    simp only [Bool.false_eq_true, if_false] at E10 E11 ⊢
    have key := yl_wp (tab := tab) (id := 7) (P := fun b H' => b = (paStp false many j j x).2 ∧ H' = paHp false many (.sl 1 L.length (encs strA L) t2) rv n0 lo0 (j + 1) (if (paStp false many j j x).2 then .loop 0 .normal tm [47, 48] paAs paBd else .loop 2 (.exit 2) tm [47, 48] paAs paBd))
      (args := [.int .i64 (j : Nat), .str (bs x)]) (H := paHp false many (.sl 1 L.length (encs strA L) t2) rv n0 lo0 j (.loop 0 .normal tm [47, 48] paAs paBd)) (readLoop_of rfl) ha rfl (by decide) (by decide) (by decide) (by decide) (by decide) ?_
    · obtain ⟨b, H', k1, rfl, k2⟩ := key
      exact ⟨H', k1, k2⟩
    unfold paAs paHp paStp
    simp only [Bool.false_eq_true, if_false, Bool.false_or]
    simp (disch := omega) only [wk, avalE, aactE, evPE, boundE, asNat, bv_seql cellsEq_ii, bv_sneqd cellsEq_ii, readC, allOne, fillL, resE, tupled, ↓reduceIte, Nat.reduceEqDiff, Int.reduceEq, Int.reduceLT, Int.reduceLE, Nat.reduceAdd, Nat.reduceMul, Nat.reduceLT, Nat.reduceLeDiff, reduceCtorEq, updPs_cons, updPs_nil]
    refine ⟨rfl, rfl, _, _, _, _, _, readLoop_of rfl, ?_⟩
    unfold paBd
    by_cases hm : many ≤ (j : Int) + 1
    · simp (disch := omega) only [wk, avalE, aactE, evPE, boundE, asNat, bv_seql cellsEq_ii, bv_sneqd cellsEq_ii, readC, allOne, fillL, resE, tupled, ↓reduceIte, Nat.reduceEqDiff, Int.reduceEq, Int.reduceLT, Int.reduceLE, Nat.reduceAdd, Nat.reduceMul, Nat.reduceLT, Nat.reduceLeDiff, reduceCtorEq, E3, E4, E7, E10, E11, n1, n2, d1, strne', bs_toList, hxx, hm]
      exact ⟨rfl, _, _, _, _, _, _, readLoop_of rfl, rfl, rfl⟩
    · simp (disch := omega) only [wk, avalE, aactE, evPE, boundE, asNat, bv_seql cellsEq_ii, bv_sneqd cellsEq_ii, readC, allOne, fillL, resE, tupled, ↓reduceIte, Nat.reduceEqDiff, Int.reduceEq, Int.reduceLT, Int.reduceLE, Nat.reduceAdd, Nat.reduceMul, Nat.reduceLT, Nat.reduceLeDiff, reduceCtorEq, E3, E4, E7, E10, E11, n1, n2, d1, strne', bs_toList, hxx, hm]
      exact ⟨rfl, _, _, _, _, _, _, readLoop_of rfl, rfl, rfl⟩
  | true =>
    simp only [if_true] at E10 E11 ⊢
    have key := yl_wp (tab := tab) (id := 11) (P := fun b H' => b = (paStp true many j j x).2 ∧ H' = paHp true many (.sl 1 L.length (encs strA L) t2) rv n0 lo0 (j + 1) (if (paStp true many j j x).2 then .loop 0 .normal tm [47, 48] paAs paBd else .loop 2 (.exit 2) tm [47, 48] paAs paBd))
      (args := [.int .i64 (j : Nat), .str (bs x)]) (H := paHp true many (.sl 1 L.length (encs strA L) t2) rv n0 lo0 j (.loop 0 .normal tm [47, 48] paAs paBd)) (readLoop_of rfl) ha rfl (by decide) (by decide) (by decide) (by decide) (by decide) ?_
    · obtain ⟨b, H', k1, rfl, k2⟩ := key
      exact ⟨H', k1, k2⟩
    unfold paAs paHp paStp
    simp only [if_true, Bool.true_or]
    simp (disch := omega) only [wk, avalE, aactE, evPE, boundE, asNat, bv_seql cellsEq_ii, bv_sneqd cellsEq_ii, readC, allOne, fillL, resE, tupled, ↓reduceIte, Nat.reduceEqDiff, Int.reduceEq, Int.reduceLT, Int.reduceLE, Nat.reduceAdd, Nat.reduceMul, Nat.reduceLT, Nat.reduceLeDiff, reduceCtorEq, updPs_cons, updPs_nil]
    refine ⟨rfl, rfl, _, _, _, _, _, readLoop_of rfl, ?_⟩
    unfold paBd
    simp (disch := omega) only [wk, avalE, aactE, evPE, boundE, asNat, bv_seql cellsEq_ii, bv_sneqd cellsEq_ii, readC, allOne, fillL, resE, tupled, ↓reduceIte, Nat.reduceEqDiff, Int.reduceEq, Int.reduceLT, Int.reduceLE, Nat.reduceAdd, Nat.reduceMul, Nat.reduceLT, Nat.reduceLeDiff, reduceCtorEq, E3, E4, E7, E10, E11, n1, n2, d1, strne', bs_toList, hxx]
    exact ⟨rfl, _, _, _, _, _, _, readLoop_of rfl, rfl, rfl⟩
theorem pa_run1 (many : Int) : ∀ (L : List (List UInt8)) (q j : Nat), runJ (paStp true many) q j L = q + L.length
  | [], q, j => rfl
  | x :: r, q, j => by
    rw [runJ, if_pos (by simp [paStp])]
    have := pa_run1 many r (q + 1) (j + 1)
    simp only [paStp, List.length_cons] at this ⊢
    rw [this]; omega
theorem pa_run0 (many M : Int) (hM : (1 < many ∧ M = many) ∨ (many ≤ 1 ∧ M = 1)) : ∀ (L : List (List UInt8)) (q j : Nat), (q : Int) < M → ((runJ (paStp false many) q j L : Nat) : Int) = if (q : Int) + L.length ≤ M then (q : Int) + L.length else M
  | [], q, j, h => by
    simp only [runJ, List.length_nil]
    split <;> omega
  | x :: r, q, j, h => by
    rw [runJ]
    by_cases hm : many ≤ (q : Int) + 1
    · rw [if_neg (by simp [paStp, hm])]
      simp only [paStp, List.length_cons]
      rcases hM with ⟨h1, rfl⟩ | ⟨h1, rfl⟩ <;> split <;> omega
    · rw [if_pos (by simp [paStp, hm])]
      have := pa_run0 many M hM r (q + 1) (j + 1) (by rcases hM with ⟨h1, rfl⟩ | ⟨h1, rfl⟩ <;> omega)
      simp only [paStp, List.length_cons] at this ⊢
      rw [this]
      rcases hM with ⟨h1, rfl⟩ | ⟨h1, rfl⟩ <;> split <;> split <;> omega
/-- A turn of the law: the consumer of one turn is done. -/
theorem pa_ic {tn : Bool} {many : Int} {s1 s2 : Nat} {t1 t2 : Tk} {L : List (List UInt8)} {n0 lo0 : AObj} {E : Env} {tm : List AV} (hL : L.length ≤ 10000) (ha : Ag 98 tm E) (hs1 : L ≠ [] → s1 = 1) (hs : L ≠ [] → s2 = 1)
    (E3 : E 3 = .ptr 0 0) (E4 : E 4 = .ptr 1 0) (E7 : E 7 = .ptr 2 0) (E10 : E 10 = .ptr (if tn then 8 else 4) 0) (E11 : E 11 = .ptr (if tn then 9 else 5) 0) :
    ∃ lo, (lo = .loop 0 .normal tm [47, 48] paAs paBd ∨ lo = .loop 2 (.exit 2) tm [47, 48] paAs paBd) ∧
      (cbL tab).ic 61 [.yld (if tn then 11 else 7), .ptr 3 0] (paHp tn many (.sl s2 L.length (encs strA L) t2) (.sl s1 L.length (encs strA L) t1) n0 lo0 0 (.loop 0 .normal tm [47, 48] paAs paBd)) =
        some (.ret (.tup []), paHp tn many (.sl s2 L.length (encs strA L) t2) (.sl s1 L.length (encs strA L) t1) n0 lo0 (runJ (paStp tn many) 0 0 L) lo) := by
  obtain ⟨o, H', q1, rfl, q2⟩ := each1_ic2
    (fun j q H => q = j ∧ H = paHp tn many (.sl s2 L.length (encs strA L) t2) (.sl s1 L.length (encs strA L) t1) n0 lo0 q (.loop 0 .normal tm [47, 48] paAs paBd))
    (fun q H => H = paHp tn many (.sl s2 L.length (encs strA L) t2) (.sl s1 L.length (encs strA L) t1) n0 lo0 q (.loop 2 (.exit 2) tm [47, 48] paAs paBd))
    (paStp tn many) (if tn then 11 else 7) 3 L hL s1 t1 hs1 (fun q H j x hx hR => by
      obtain ⟨rfl, rfl⟩ := hR
      obtain ⟨H', y1, y2⟩ := pa_round (many := many) (t2 := t2) (rv := .sl s1 L.length (encs strA L) t1) (n0 := n0) (lo0 := lo0) hL ha hs E3 E4 E7 E10 E11 q x hx
      refine ⟨H', y1, ?_⟩
      cases hb : (paStp tn many q q x).2 with
      | true => rw [hb] at y2; exact ⟨rfl, y2⟩
      | false => rw [hb] at y2; exact y2) 0 _ ⟨rfl, rfl⟩ (by cases tn <;> rfl)
  rcases q2 with ⟨_, rfl⟩ | rfl
  · exact ⟨_, .inl rfl, q1⟩
  · exact ⟨_, .inr rfl, q1⟩
end Go.Proofs.YtmogflndepihnaaDoor
