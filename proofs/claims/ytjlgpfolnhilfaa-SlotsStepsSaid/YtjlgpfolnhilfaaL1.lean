/- WHAT THE LAWS OF SLOTS SHARE: lent, num, works, and that the table is the program's. No condition but those stated. -/
import Derived.Test.YtjlgpfolnhilfaaS0
import Derived.Test.YtjlgpfolnhilfaaS9
import Derived.Test.YtjlgpfolnhilfaaR4
import Derived.Test.YtjlgpfolnhilfaaAmOpen
import Derived.KernelRfl
set_option linter.unusedSimpArgs false
set_option linter.unusedVariables false
set_option linter.unusedSectionVars false
namespace Go.Proofs.Ytjlgpfolnhilfaa
open Go Go.Am Go.Slots
set_option maxHeartbeats 2000000
set_option maxRecDepth 10000
def isTrueR : Option PR → Bool
  | some (.plain (.bool true)) => true
  | _ => false
theorem isTrueR_eq {o : Option PR} (h : isTrueR o = true) : o = some (.plain (.bool true)) := by
  unfold isTrueR at h
  split at h
  · rfl
  · cases h
theorem works_ev : isTrueR ((cbs tab 60).pc 19 []) = true := by kernel_rfl
theorem works_px (H : Heap) : pcx (cbL tab) 19 [] H = some (.plain (.bool true)) := pcx_N rfl (cbL_pc.2 ⟨60, isTrueR_eq works_ev⟩)
theorem num_px (e : Int) (H : Heap) : pcx (cbL tab) 24 [.int .i64 e] H = some (.plain (.int .i64 e)) := by
  refine pcx_N rfl (pc_wp (fi := c24) rfl rfl (by simp [c24]) (by decide) ?_)
  unfold c24
  simp (disch := omega) only [wk1, wk2, wk3, wk4, wk5, wk6, avalE, aactE, evPE, boundE, asNat, Nat.zero_mul, Int.tdiv_eq_ediv_of_nonneg, Int.tmod_eq_emod_of_nonneg, List.length_append, Nat.mul_one, bv_seql cellsEq_ii, bv_sneqd cellsEq_ii, Bool.not_false, Bool.not_true, decide_eq_true_eq, Bool.not_eq_true, eq_self, ne_eq, and_true, true_and, and_self, not_true_eq_false, not_false_eq_true, if_true, if_false, decide_true, decide_false, Int.toNat_natCast, Int.natCast_nonneg, List.drop_zero, List.take_zero, List.take_succ_cons, List.drop_succ_cons, readC, allOne, Bool.and_self, Bool.and_true, Bool.true_and, fillL, beq_self_eq_true, Nat.one_mul, List.drop_nil, resE, tupled, List.map_nil, List.map_cons, Option.map_some, ↓reduceIte, Nat.reduceEqDiff, Int.reduceEq, Int.reduceLT, Int.reduceLE, Nat.reduceAdd, Nat.reduceMul, Nat.reduceLT, Nat.reduceLeDiff, reduceCtorEq, List.length_nil, List.length_cons, Nat.add_zero, Nat.sub_zero, List.nil_append, List.cons_append, List.getElem?_cons_zero, List.getElem?_cons_succ, List.set_cons_zero, List.set_cons_succ, lend_int, purify, unownT, AV.hf]
theorem lent_px (n : Nat) (cs : List AV) (tk : Tk) (H : Heap) (hn : n ≤ 80) (hl : cs.length = n) (hc : hfL cs = true) (h1 : allOne cs = true) : pcx (cbL tab) 21 [.sl 1 n cs tk] H = some (.plain (.sl 1 n (cs ++ [.int .u64 77]) .ro)) := by
  obtain ⟨u1, e1, f1⟩ := lend_sl 1 n cs tk
  refine pcx_N rfl (pc_wp (fi := c21) rfl ?_ (by simp [c21]) (by decide) ?_)
  · simp only [pcOn, List.map_cons, List.map_nil, hfL, hf_lend_sl, hf_lend_int, hf_lend_bool, hf_lend_str, hfL_append, Bool.and_self, Bool.and_true, Bool.true_and, c21, hc]
  unfold c21
  rw [List.map_cons, List.map_nil, e1]
  by_cases h0 : n = 0
  · subst h0
    have : cs = [] := List.length_eq_zero_iff.1 hl
    subst this
    have a1 : appV 1 8 (.sl 1 0 [] .e) (.sl 1 0 [] u1) [] = some (.val (.sl 1 0 [] .e), []) := rfl
    have a2 : appV 1 8 (.sl 1 0 [] .e) (.sl 1 1 [.int .u64 77] .ro) [] = some (.val (.sl 1 1 [.int .u64 77] (.own 0)), [.tok 1]) := rfl
    simp (disch := omega) only [wk1, wk2, wk3, wk4, wk5, wk6, avalE, aactE, evPE, boundE, asNat, Nat.zero_mul, Int.tdiv_eq_ediv_of_nonneg, Int.tmod_eq_emod_of_nonneg, List.length_append, Nat.mul_one, bv_seql cellsEq_ii, bv_sneqd cellsEq_ii, Bool.not_false, Bool.not_true, decide_eq_true_eq, Bool.not_eq_true, eq_self, ne_eq, and_true, true_and, and_self, not_true_eq_false, not_false_eq_true, if_true, if_false, decide_true, decide_false, Int.toNat_natCast, Int.natCast_nonneg, List.drop_zero, List.take_zero, List.take_succ_cons, List.drop_succ_cons, readC, allOne, Bool.and_self, Bool.and_true, Bool.true_and, fillL, beq_self_eq_true, Nat.one_mul, List.drop_nil, resE, tupled, List.map_nil, List.map_cons, Option.map_some, ↓reduceIte, Nat.reduceEqDiff, Int.reduceEq, Int.reduceLT, Int.reduceLE, Nat.reduceAdd, Nat.reduceMul, Nat.reduceLT, Nat.reduceLeDiff, reduceCtorEq, List.length_nil, List.length_cons, Nat.add_zero, Nat.sub_zero, List.nil_append, List.cons_append, List.getElem?_cons_zero, List.getElem?_cons_succ, List.set_cons_zero, List.set_cons_succ, a1, a2, purify, unownT, AV.hf, hfL, Tk.hf]
  · have ht : cs.take n = cs := List.take_of_length_le (by omega)
    have a1 : appV 1 8 (.sl 1 0 [] .e) (.sl 1 n cs u1) [] = some (.val (.sl 1 n cs (.own 0)), [.tok 1]) := by
      have g1 : (0 + n) * 8 ≤ 70368744177664 := by omega
      have g2 : 0 + n ≤ 70368744177664 := by omega
      simp [appV, h0, ht, h1, hl]
      omega
    have a2 : appV 1 8 (.sl 1 n cs (.own 0)) (.sl 1 1 [.int .u64 77] .ro) [.tok 1] = some (.val (.sl 1 (n + 1) (cs ++ [.int .u64 77]) (.own 1)), [.dead, .tok 1]) := by
      have g1 : (n + 1) * 8 ≤ 70368744177664 := by omega
      have g2 : n + 1 ≤ 70368744177664 := by omega
      simp [appV, g1, g2, allOne, AV.one]
    have e4 : (cs ++ [AV.int .u64 77]).length = n + 1 := by simp [hl]
    simp (disch := omega) only [wk1, wk2, wk3, wk4, wk5, wk6, avalE, aactE, evPE, boundE, asNat, Nat.zero_mul, Int.tdiv_eq_ediv_of_nonneg, Int.tmod_eq_emod_of_nonneg, List.length_append, Nat.mul_one, bv_seql cellsEq_ii, bv_sneqd cellsEq_ii, Bool.not_false, Bool.not_true, decide_eq_true_eq, Bool.not_eq_true, eq_self, ne_eq, and_true, true_and, and_self, not_true_eq_false, not_false_eq_true, if_true, if_false, decide_true, decide_false, Int.toNat_natCast, Int.natCast_nonneg, List.drop_zero, List.take_zero, List.take_succ_cons, List.drop_succ_cons, readC, allOne, Bool.and_self, Bool.and_true, Bool.true_and, fillL, beq_self_eq_true, Nat.one_mul, List.drop_nil, resE, tupled, List.map_nil, List.map_cons, Option.map_some, ↓reduceIte, Nat.reduceEqDiff, Int.reduceEq, Int.reduceLT, Int.reduceLE, Nat.reduceAdd, Nat.reduceMul, Nat.reduceLT, Nat.reduceLeDiff, reduceCtorEq, List.length_nil, List.length_cons, Nat.add_zero, Nat.sub_zero, List.nil_append, List.cons_append, List.getElem?_cons_zero, List.getElem?_cons_succ, List.set_cons_zero, List.set_cons_succ, a1, a2, e4, hfL_append, purify, unownT, AV.hf, hfL, Tk.hf, hc]
/-- Words, as pairs. -/
def pairUp : List Int → List (Int × Int)
  | x :: y :: r => (x, y) :: pairUp r
  | _ => []
theorem pairUp_ok : ∀ (xs : List Int), xs.length % 2 = 0 → encs u64A xs = encs pairA (pairUp xs) ∧ xs.length = 2 * (pairUp xs).length
  | [], _ => ⟨rfl, rfl⟩
  | [x], h => by simp at h
  | x :: y :: r, h => by
    simp only [List.length_cons] at h
    obtain ⟨h1, h2⟩ := pairUp_ok r (by omega)
    refine ⟨?_, by simp only [pairUp, List.length_cons]; omega⟩
    rw [pairUp, encs_cons, encs_cons, encs_cons, h1]
    rfl
/-- What a slice of words is. -/
theorem ok_words {v : AV} (h : OkS (.slice [.int .u64]) v) : ∃ (xs : List Int) (tk : Tk), v = .sl 1 xs.length (encs u64A xs) tk ∧ (xs.length : Int) ≤ 9223372036854775807 ∧ ∀ x ∈ xs, 0 ≤ x ∧ x ≤ 18446744073709551615 := by
  cases h with
  | slnil _ => exact ⟨[], .z, rfl, by decide, fun x hx => by simp at hx⟩
  | sl _ rows hm hl hr =>
    have : ∀ rows : List (List AV), (∀ r ∈ rows, r.length = 1) → (∀ r ∈ rows, ∀ (i : Nat) (s : Sh) (v : AV), [Sh.int .u64][i]? = some s → r[i]? = some v → OkS s v) →
        ∃ xs : List Int, rows.flatten = encs u64A xs ∧ xs.length = rows.length ∧ ∀ x ∈ xs, 0 ≤ x ∧ x ≤ 18446744073709551615 := by
      intro rows
      induction rows with
      | nil => intro _ _; exact ⟨[], rfl, rfl, fun x hx => by simp at hx⟩
      | cons r rows ih =>
        intro h1 h2
        obtain ⟨xs, k1, k2, k3⟩ := ih (fun r hr => h1 r (List.mem_cons_of_mem _ hr)) (fun r hr => h2 r (List.mem_cons_of_mem _ hr))
        have hr1 := h1 r (List.mem_cons_self ..)
        match r, hr1 with
        | [v], _ =>
          have := h2 [v] (List.mem_cons_self ..) 0 _ v rfl rfl
          cases this with
          | int _ n b1 b2 =>
            have b1 : 0 ≤ n := b1
            have b2 : n ≤ 18446744073709551615 := b2
            refine ⟨n :: xs, by rw [List.flatten_cons, k1, encs_cons]; rfl, by simp [k2], fun x hx => ?_⟩
            rcases List.mem_cons.1 hx with rfl | hx
            · exact ⟨b1, b2⟩
            · exact k3 x hx
    obtain ⟨xs, k1, k2, k3⟩ := this rows hl hr
    exact ⟨xs, .ro, by rw [k1, k2]; rfl, by rw [k2]; omega, k3⟩
theorem ok_int {k : IntKind} {v : AV} (h : OkS (.int k) v) : ∃ n, v = .int k n ∧ k.min ≤ n ∧ n ≤ k.max := by
  cases h with
  | int _ n h1 h2 => exact ⟨n, rfl, h1, h2⟩
theorem ok_pair {xs : List AV} (h : OkL [.int .u64, .int .u64] xs) : ∃ p : Int × Int, xs = pairA p ∧ 0 ≤ p.1 ∧ 0 ≤ p.2 := by
  obtain ⟨hl, h⟩ := h
  match xs, hl with
  | [a, b], _ =>
    obtain ⟨n, rfl, k1, _⟩ := ok_int (h 0 _ a rfl rfl)
    obtain ⟨m, rfl, k2, _⟩ := ok_int (h 1 _ b rfl rfl)
    exact ⟨(n, m), rfl, k1, k2⟩
theorem hf_u64A (l : List Int) : hfL (encs u64A l) = true := hfL_encs (fun _ => rfl) l
theorem one_u64A (l : List Int) : allOne (encs u64A l) = true := allOne_encs (fun _ => rfl) l
end Go.Proofs.Ytjlgpfolnhilfaa
