/- THE LAW InodeSame COMES TO true. No condition but those stated. -/
import Derived.Test.YtncmflmjlocgiaaI3
import Derived.Test.YtncmflmjlocgiaaAmOpen
set_option linter.unusedSimpArgs false
set_option linter.unusedVariables false
set_option linter.unusedSectionVars false
namespace Go.Proofs.Ytncmflmjlocgiaa
open Go Go.Am Go.Rec Go.Ino
set_option maxHeartbeats 2000000
set_option maxRecDepth 10000
def inI64 (n : Int) : Prop := -9223372036854775808 ≤ n ∧ n ≤ 9223372036854775807
/-- What a slice of extents is. -/
theorem ok_exts {v : AV} (h : OkS (.slice [.int .i64, .int .i64, .int .i64]) v) : ∃ l : List Ext, MapR v l ∧ (l.length : Int) ≤ 9223372036854775807 ∧ ∀ x ∈ l, inI64 x.1 ∧ inI64 x.2.1 ∧ inI64 x.2.2 := by
  cases h with
  | slnil _ => exact ⟨[], ⟨3, [], .z, rfl, fun _ => rfl, rfl, rfl⟩, by decide, fun x hx => by simp at hx⟩
  | sl _ rows hm hl hr =>
    have : ∀ rows : List (List AV), (∀ r ∈ rows, r.length = 3) → (∀ r ∈ rows, ∀ (i : Nat) (s : Sh) (v : AV), [Sh.int .i64, .int .i64, .int .i64][i]? = some s → r[i]? = some v → OkS s v) →
        ∃ xs : List Ext, rows.flatten = encs extA xs ∧ xs.length = rows.length ∧ ∀ x ∈ xs, inI64 x.1 ∧ inI64 x.2.1 ∧ inI64 x.2.2 := by
      intro rows
      induction rows with
      | nil => intro _ _; exact ⟨[], rfl, rfl, fun x hx => by simp at hx⟩
      | cons r rows ih =>
        intro h1 h2
        obtain ⟨xs, k1, k2, k3⟩ := ih (fun r hr => h1 r (List.mem_cons_of_mem _ hr)) (fun r hr => h2 r (List.mem_cons_of_mem _ hr))
        have hr1 := h1 r (List.mem_cons_self ..)
        match r, hr1 with
        | [v0, v1, v2], _ =>
          have t0 := h2 [v0, v1, v2] (List.mem_cons_self ..) 0 _ v0 rfl rfl
          have t1 := h2 [v0, v1, v2] (List.mem_cons_self ..) 1 _ v1 rfl rfl
          have t2 := h2 [v0, v1, v2] (List.mem_cons_self ..) 2 _ v2 rfl rfl
          cases t0 with
          | int _ n0 b01 b02 =>
            cases t1 with
            | int _ n1 b11 b12 =>
              cases t2 with
              | int _ n2 b21 b22 =>
                refine ⟨(n0, n1, n2) :: xs, by rw [List.flatten_cons, k1, encs_cons]; rfl, by simp [k2], fun x hx => ?_⟩
                rcases List.mem_cons.1 hx with rfl | hx
                · exact ⟨⟨b01, b02⟩, ⟨b11, b12⟩, ⟨b21, b22⟩⟩
                · exact k3 x hx
    obtain ⟨xs, k1, k2, k3⟩ := this rows hl hr
    exact ⟨xs, ⟨3, [], .ro, by rw [k1, k2, List.append_nil]; rfl, fun _ => rfl, rfl, rfl⟩, by rw [k2]; omega, k3⟩
def shI : List Sh := [.int .i64, .int .i64, .int .i64, .slice [.int .i64, .int .i64, .int .i64], .int .i64, .int .i64, .str]
theorem okL_ino {xs : List AV} (h : OkL shI xs) : ∃ (n : Ino) (m : AV), AV.agg xs = inoA n m ∧ MapR m n.map ∧ inI64 n.kind ∧ inI64 n.links ∧ inI64 n.size ∧ inI64 n.root ∧ inI64 n.parent ∧ (∀ x ∈ n.map, inI64 x.1 ∧ inI64 x.2.1 ∧ inI64 x.2.2) := by
  obtain ⟨hl, hi⟩ := h
  match xs, hl with
  | [a0, a1, a2, a3, a4, a5, a6], _ =>
    have h0 := hi 0 (.int .i64) a0 rfl rfl
    have h1 := hi 1 (.int .i64) a1 rfl rfl
    have h2 := hi 2 (.int .i64) a2 rfl rfl
    have h3 := hi 3 (.slice [.int .i64, .int .i64, .int .i64]) a3 rfl rfl
    have h4 := hi 4 (.int .i64) a4 rfl rfl
    have h5 := hi 5 (.int .i64) a5 rfl rfl
    have h6 := hi 6 .str a6 rfl rfl
    obtain ⟨l, hm, _, hx⟩ := ok_exts h3
    cases h0 with
    | int _ n0 b01 b02 =>
      cases h1 with
      | int _ n1 b11 b12 =>
        cases h2 with
        | int _ n2 b21 b22 =>
          cases h4 with
          | int _ n4 b41 b42 =>
            cases h5 with
            | int _ n5 b51 b52 =>
              cases h6 with
              | str s hs => exact ⟨⟨n0, n1, n2, l, n4, n5, s⟩, a3, rfl, hm, ⟨b01, b02⟩, ⟨b11, b12⟩, ⟨b21, b22⟩, ⟨b41, b42⟩, ⟨b51, b52⟩, hx⟩
theorem inodeSame_pc {xs ys : List AV} (h : OkL shI xs) (h' : OkL shI ys) : (cbL tab).pc 10 [.agg xs, .agg ys] = some (.plain (.bool true)) := by
  obtain ⟨a, m, e1, hm, _⟩ := okL_ino h
  obtain ⟨b, k, e2, hk, _⟩ := okL_ino h'
  rw [e1, e2]
  refine pc_wp (fi := c10) rfl ?_ (by simp [c10]) (by decide) ?_
  · simp only [pcOn, List.map_cons, List.map_nil, hfL, hf_lend_sl, hf_lend_int, hf_lend_bool, hf_lend_str, hfL_append, Bool.and_self, Bool.and_true, Bool.true_and, c10, lend_inoA hm, hf_inoA hm, lend_inoA hk, hf_inoA hk]
  unfold c10
  rw [List.map_cons, List.map_cons, List.map_nil, lend_inoA hm, lend_inoA hk]
  have fa := fun H => few_px a m hm H
  have fb := fun H => few_px b k hk H
  have m1 := hm.one.1
  have m2 := hm.one.2
  have k1 := hk.one.1
  have k2 := hk.one.2
  simp only [inoA] at fa fb
  by_cases c1 : a.map.length ≤ 30 ∧ a.target.size ≤ 300
  case neg =>
    have c1' : decide (a.map.length ≤ 30 ∧ a.target.size ≤ 300) = false := decide_eq_false c1
    clear c1
    simp (disch := omega) only [wk, avalE, aactE, evPE, boundE, asNat, bv_seql cellsEq_ii, bv_sneqd cellsEq_ii, readC, allOne, fillL, resE, tupled, ↓reduceIte, Nat.reduceEqDiff, Int.reduceEq, Int.reduceLT, Int.reduceLE, Nat.reduceAdd, Nat.reduceMul, Nat.reduceLT, Nat.reduceLeDiff, reduceCtorEq, inoA, m1, m2, k1, k2, fa, c1', works_px, purify, unownT, AV.hf]
  have c1' : decide (a.map.length ≤ 30 ∧ a.target.size ≤ 300) = true := decide_eq_true c1
  by_cases c2 : b.map.length ≤ 30 ∧ b.target.size ≤ 300
  case neg =>
    have c2' : decide (b.map.length ≤ 30 ∧ b.target.size ≤ 300) = false := decide_eq_false c2
    clear c2 c1
    simp (disch := omega) only [wk, avalE, aactE, evPE, boundE, asNat, bv_seql cellsEq_ii, bv_sneqd cellsEq_ii, readC, allOne, fillL, resE, tupled, ↓reduceIte, Nat.reduceEqDiff, Int.reduceEq, Int.reduceLT, Int.reduceLE, Nat.reduceAdd, Nat.reduceMul, Nat.reduceLT, Nat.reduceLeDiff, reduceCtorEq, inoA, m1, m2, k1, k2, fa, c1', fb, c2', works_px, purify, unownT, AV.hf]
  have c2' : decide (b.map.length ≤ 30 ∧ b.target.size ≤ 300) = true := decide_eq_true c2
  have s1 := fun H => same_px' a b m k hm hk (by omega) (by omega) H
  have s2 := fun H => rsame_px' a b m k hm hk (by omega) (by omega) H
  have s3 := fun H => same_px' a a m m hm hm (by omega) (by omega) H
  rw [show sameB a a = true from sameB_iff.2 rfl] at s3
  simp only [inoA] at s1 s2 s3
  clear c1 c2
  simp (disch := omega) only [wk, avalE, aactE, evPE, boundE, asNat, bv_seql cellsEq_ii, bv_sneqd cellsEq_ii, readC, allOne, fillL, resE, tupled, ↓reduceIte, Nat.reduceEqDiff, Int.reduceEq, Int.reduceLT, Int.reduceLE, Nat.reduceAdd, Nat.reduceMul, Nat.reduceLT, Nat.reduceLeDiff, reduceCtorEq, inoA, m1, m2, k1, k2, fa, c1', fb, c2', s1, s2, s3, works_px, purify, unownT, AV.hf]
end Go.Proofs.Ytncmflmjlocgiaa
