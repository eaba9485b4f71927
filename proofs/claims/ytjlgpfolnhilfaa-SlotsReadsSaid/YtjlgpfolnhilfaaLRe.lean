/- THE LAW SlotsReads COMES TO true. -/
import Derived.Test.YtjlgpfolnhilfaaLRe2
set_option linter.unusedSimpArgs false
set_option linter.unusedVariables false
set_option linter.unusedSectionVars false
namespace Go.Proofs.Ytjlgpfolnhilfaa
open Go Go.Am Go.Slots
set_option maxHeartbeats 4000000
set_option maxRecDepth 10000
theorem slotsReads_pc {x0 x1 x2 : AV} (h0 : OkS (.int .u64) x0) (h1 : OkS (.slice [.int .u64]) x1) (h2 : OkS (.int .i64) x2) : (cbL tab).pc 6 [x0, x1, x2] = some (.plain (.bool true)) := by
  obtain ⟨left, rfl, _, _⟩ := ok_int h0
  obtain ⟨xs, tk, rfl, hn, _⟩ := ok_words h1
  obtain ⟨many, rfl, hmin, hmax⟩ := ok_int h2
  have hmin : -9223372036854775808 ≤ many := hmin
  have hmax : many ≤ 9223372036854775807 := hmax
  have hu := hf_u64A xs
  obtain ⟨u1, e1, f1⟩ := lend_sl 1 xs.length (encs u64A xs) tk
  refine pc_wp (fi := c6) rfl ?_ (by simp [c6]) (by decide) ?_
  · simp only [pcOn, List.map_cons, List.map_nil, hfL, hf_lend_sl, hf_lend_int, hf_lend_bool, hf_lend_str, hfL_append, Bool.and_self, Bool.and_true, Bool.true_and, c6, hu]
  unfold c6
  rw [List.map_cons, List.map_cons, List.map_cons, List.map_nil, e1, lend_int, lend_int]
  by_cases hlen : 80 < xs.length
  · simp (disch := omega) only [wk1, wk2, wk3, wk4, wk5, wk6, avalE, aactE, evPE, boundE, asNat, Nat.zero_mul, Int.tdiv_eq_ediv_of_nonneg, Int.tmod_eq_emod_of_nonneg, List.length_append, Nat.mul_one, bv_seql cellsEq_ii, bv_sneqd cellsEq_ii, Bool.not_false, Bool.not_true, decide_eq_true_eq, Bool.not_eq_true, eq_self, ne_eq, and_true, true_and, and_self, not_true_eq_false, not_false_eq_true, if_true, if_false, decide_true, decide_false, Int.toNat_natCast, Int.natCast_nonneg, List.drop_zero, List.take_zero, List.take_succ_cons, List.drop_succ_cons, readC, allOne, Bool.and_self, Bool.and_true, Bool.true_and, fillL, beq_self_eq_true, Nat.one_mul, List.drop_nil, resE, tupled, List.map_nil, List.map_cons, Option.map_some, ↓reduceIte, Nat.reduceEqDiff, Int.reduceEq, Int.reduceLT, Int.reduceLE, Nat.reduceAdd, Nat.reduceMul, Nat.reduceLT, Nat.reduceLeDiff, reduceCtorEq, List.length_nil, List.length_cons, Nat.add_zero, Nat.sub_zero, List.nil_append, List.cons_append, List.getElem?_cons_zero, List.getElem?_cons_succ, List.set_cons_zero, List.set_cons_succ, works_px, purify, unownT, AV.hf]
  have hlp := fun H => lent_px xs.length (encs u64A xs) u1 H (by omega) (by rw [encs_length]; omega) hu (one_u64A xs)
  have hcl : hfL (encs u64A xs ++ [.int .u64 77]) = true := by rw [hfL_append, hu]; rfl
  have rp := fun H => pcx_N (H := H) rfl (right_pc left xs.length (encs u64A xs) u1 hn hu)
  -- what both tell
  obtain ⟨L, ce, hrd, hrr, hck, hcr, hL⟩ : ∃ (L : List (Nat × (Int × Int))) (ce : Int), (∀ H, pcx (cbL tab) 30 [.int .u64 left, .sl 1 xs.length (encs u64A xs ++ [.int .u64 77]) .ro] H = some (prRow 2 pairA (L.map (·.2)))) ∧
      (right left xs.length → ∀ H, pcx (cbL tab) 28 [.int .u64 left, .sl 1 xs.length (encs u64A xs) u1] H = some (.plain (.tup [slvR 2 pairA (L.map (·.2)), slvR 1 intA (L.map (fun p => (p.1 : Int)))]))) ∧
      (∀ H, pcx (cbL tab) 31 [.int .u64 left, .sl 1 xs.length (encs u64A xs ++ [.int .u64 77]) .ro] H = some (.plain (.int .i64 ce))) ∧
      (∀ H, pcx (cbL tab) 32 [.int .u64 left, .sl 1 xs.length (encs u64A xs) u1] H = some (.plain (.int .i64 ce))) ∧ (L.length ≤ 100 ∧ (¬ right left xs.length → L = []) ∧ (right left xs.length → xs.length = 2 * (pairUp xs).length ∧ encs u64A xs = encs pairA (pairUp xs) ∧ L = eachL left 0 (pairUp xs))) := by
    by_cases hr : right left xs.length
    · obtain ⟨q1, q2⟩ := pairUp_ok xs hr.2.1
      have hr' := hr
      rw [q2] at hr'
      have hl := rdL_le left (pairUp xs)
      have h56 := hr'.2.2.2
      have hmap := eachL_snd left 0 (pairUp xs)
      refine ⟨eachL left 0 (pairUp xs), if okL left (pairUp xs) then 0 else 190, fun H => ?_, fun _ H => ?_, fun H => ?_, fun H => ?_, ?_, fun h => absurd hr h, fun _ => ⟨q2, q1, rfl⟩⟩
      · rw [q1, q2, hmap]
        exact pcx_N rfl (slotsread left (pairUp xs) [.int .u64 77] .ro rfl hr')
      · rw [q1, q2, hmap, eachL_fst]
        have := refread_px left (pairUp xs) [] u1 H (by omega) rfl
        rwa [row, List.append_nil] at this
      · rw [q1, q2]
        exact slotscheck_yes left (pairUp xs) [.int .u64 77] .ro H rfl hr'
      · rw [q1, q2]
        have := check_yes left (pairUp xs) [] u1 H rfl hr'
        rwa [row, List.append_nil] at this
      · have := congrArg List.length hmap
        rw [List.length_map] at this
        omega
    · refine ⟨[], 2, fun H => ?_, fun h => absurd h hr, fun H => ?_, fun H => ?_, by simp, fun _ => rfl, fun h => absurd h hr⟩
      · exact pcx_N rfl (slotsread_no left xs.length _ .ro hn hcl hr)
      · exact slotscheck_no left xs.length _ .ro H hn hcl hr
      · exact check_no left xs.length _ u1 H hn hu hr
  have a1 := fun H => each_px (.int .u64 left) (.sl 1 xs.length (encs u64A xs ++ [.int .u64 77]) .ro) H
  have a2 := fun H => each33 left 1 xs.length (encs u64A xs ++ [.int .u64 77]) .ro H
  have hlen' : xs.length ≤ 80 := by omega
  have go : ∀ (k0 k11 : Nat) (E : Env) (H : Heap), E 0 = .int .u64 left → E 1 = .sl 1 xs.length (encs u64A xs) u1 → E 5 = .ptr 0 0 → E 6 = .ptr 1 0 → E 7 = .ptr 2 0 → E 8 = .ptr 3 0 → E 9 = .sl 1 xs.length (encs u64A xs ++ [.int .u64 77]) .ro → E 10 = .fn 68 [.ptr (k0 + 1) 0, .ptr k0 0] → E 11 = .ptr k11 0 →
      H[0]? = some (.cells [.int .i64 many]) → H[1]? = some (.cells [.bool false]) → H[2]? = some (.cells [slvR 2 pairA (L.map (·.2))]) → H[3]? = some (.cells [slvR 1 intA (L.map (fun p => (p.1 : Int)))]) → H[k0]? = some (.cells [.int .u64 left]) → H[k0 + 1]? = some (.cells [.sl 1 xs.length (encs u64A xs ++ [.int .u64 77]) .ro]) → H[k11]? = some (.cells [.int .i64 0]) → 3 < k11 →
      Ret (cbL tab) none 122 (Am.Ends tab [.cell 6 1 false] fun o H => purify (some (o, H)) = some (.plain (.bool true))) [.code (.loop reLp), .blk 0, .code reTl] .normal E [] H :=
    fun k0 k11 E H b1 b2 b3 b4 b5 b6 b7 b8 b9 c1 c2 c3 c4 c5 c6 c7 c8 => reads_loop hlen' hmin hmax hL.1 hL.2.1 hL.2.2 b1 b2 b3 b4 b5 b6 b7 b8 b9 c1 c2 c3 c4 c5 c6 c7 c8
  cases hLe : L with
  | nil =>
    rw [hLe] at hrd hrr go
    have hrd' : ∀ H, pcx (cbL tab) 30 [.int .u64 left, .sl 1 xs.length (encs u64A xs ++ [.int .u64 77]) .ro] H = some (.plain (.sl 0 0 [] .z)) := hrd
    have hrr' : right left xs.length → ∀ H, pcx (cbL tab) 28 [.int .u64 left, .sl 1 xs.length (encs u64A xs) u1] H = some (.plain (.tup [.sl 0 0 [] .z, .sl 0 0 [] .z])) := hrr
    have sp : ∀ H, pcx (cbL tab) 29 [.sl 0 0 [] .z, .sl 0 0 [] .z] H = some (.plain (.bool true)) := fun H => pcx_N rfl (samePairs_pc [] [] 0 0 .z .z (fun h => absurd rfl h) (fun h => absurd rfl h) (by decide))
    by_cases hr : right left xs.length
    · have hrr' := hrr' hr
      simp (disch := omega) only [wk1, wk2, wk3, wk4, wk5, wk6, avalE, aactE, evPE, boundE, asNat, Nat.zero_mul, Int.tdiv_eq_ediv_of_nonneg, Int.tmod_eq_emod_of_nonneg, List.length_append, Nat.mul_one, bv_seql cellsEq_ii, bv_sneqd cellsEq_ii, Bool.not_false, Bool.not_true, decide_eq_true_eq, Bool.not_eq_true, eq_self, ne_eq, and_true, true_and, and_self, not_true_eq_false, not_false_eq_true, if_true, if_false, decide_true, decide_false, Int.toNat_natCast, Int.natCast_nonneg, List.drop_zero, List.take_zero, List.take_succ_cons, List.drop_succ_cons, readC, allOne, Bool.and_self, Bool.and_true, Bool.true_and, fillL, beq_self_eq_true, Nat.one_mul, List.drop_nil, resE, tupled, List.map_nil, List.map_cons, Option.map_some, ↓reduceIte, Nat.reduceEqDiff, Int.reduceEq, Int.reduceLT, Int.reduceLE, Nat.reduceAdd, Nat.reduceMul, Nat.reduceLT, Nat.reduceLeDiff, reduceCtorEq, List.length_nil, List.length_cons, Nat.add_zero, Nat.sub_zero, List.nil_append, List.cons_append, List.getElem?_cons_zero, List.getElem?_cons_succ, List.set_cons_zero, List.set_cons_succ, rp, hr, hrr', hlp, hrd', sp, hck, hcr, num_px, a1, a2, runE_none l33, fn_nil, List.append_nil]
      refine go 4 6 _ _ ?_ ?_ ?_ ?_ ?_ ?_ ?_ ?_ ?_ rfl rfl rfl rfl rfl rfl rfl (by omega) <;> simp only [upd_app, updD_some, updD_none, ↓reduceIte, Nat.reduceEqDiff, if_true, if_false, List.length_append, List.length_cons, List.length_nil, Nat.zero_add, Nat.add_zero, cast_succ, argE_zero, argE_succ]
    · simp (disch := omega) only [wk1, wk2, wk3, wk4, wk5, wk6, avalE, aactE, evPE, boundE, asNat, Nat.zero_mul, Int.tdiv_eq_ediv_of_nonneg, Int.tmod_eq_emod_of_nonneg, List.length_append, Nat.mul_one, bv_seql cellsEq_ii, bv_sneqd cellsEq_ii, Bool.not_false, Bool.not_true, decide_eq_true_eq, Bool.not_eq_true, eq_self, ne_eq, and_true, true_and, and_self, not_true_eq_false, not_false_eq_true, if_true, if_false, decide_true, decide_false, Int.toNat_natCast, Int.natCast_nonneg, List.drop_zero, List.take_zero, List.take_succ_cons, List.drop_succ_cons, readC, allOne, Bool.and_self, Bool.and_true, Bool.true_and, fillL, beq_self_eq_true, Nat.one_mul, List.drop_nil, resE, tupled, List.map_nil, List.map_cons, Option.map_some, ↓reduceIte, Nat.reduceEqDiff, Int.reduceEq, Int.reduceLT, Int.reduceLE, Nat.reduceAdd, Nat.reduceMul, Nat.reduceLT, Nat.reduceLeDiff, reduceCtorEq, List.length_nil, List.length_cons, Nat.add_zero, Nat.sub_zero, List.nil_append, List.cons_append, List.getElem?_cons_zero, List.getElem?_cons_succ, List.set_cons_zero, List.set_cons_succ, rp, hr, hlp, hrd', sp, hck, hcr, num_px, a1, a2, runE_none l33, fn_nil, List.append_nil]
      refine go 4 6 _ _ ?_ ?_ ?_ ?_ ?_ ?_ ?_ ?_ ?_ rfl rfl rfl rfl rfl rfl rfl (by omega) <;> simp only [upd_app, updD_some, updD_none, ↓reduceIte, Nat.reduceEqDiff, if_true, if_false, List.length_append, List.length_cons, List.length_nil, Nat.zero_add, Nat.add_zero, cast_succ, argE_zero, argE_succ]
  | cons y r =>
    have hr : right left xs.length := by
      apply Classical.byContradiction
      intro h
      have := hL.2.1 h
      rw [this] at hLe
      cases hLe
    have hrr := hrr hr
    have hne : L.map (·.2) ≠ [] := by rw [hLe]; simp
    obtain ⟨s, tk', es, hz, htk⟩ := slvR_form 2 pairA (L.map (·.2))
    have hpr : prRow 2 pairA (L.map (·.2)) = .fresh 2 (L.map (·.2)).length (encs pairA (L.map (·.2))) := by
      rw [prRow, if_neg]; rw [hLe]; simp
    rw [hpr] at hrd
    have sp : ∀ tk H, pcx (cbL tab) 29 [.sl 2 (L.map (·.2)).length (encs pairA (L.map (·.2))) tk, .sl s (L.map (·.2)).length (encs pairA (L.map (·.2))) tk'] H = some (.plain (.bool (decide (L.map (·.2) = L.map (·.2))))) := fun tk H => pcx_N rfl (samePairs_pc _ _ 2 s tk tk' (fun _ => rfl) hz (by rw [List.length_map]; have := hL.1; omega))
    clear hLe
    rw [es] at hrr go
    generalize L.map (·.2) = l at *
    simp (disch := omega) only [wk1, wk2, wk3, wk4, wk5, wk6, avalE, aactE, evPE, boundE, asNat, Nat.zero_mul, Int.tdiv_eq_ediv_of_nonneg, Int.tmod_eq_emod_of_nonneg, List.length_append, Nat.mul_one, bv_seql cellsEq_ii, bv_sneqd cellsEq_ii, Bool.not_false, Bool.not_true, decide_eq_true_eq, Bool.not_eq_true, eq_self, ne_eq, and_true, true_and, and_self, not_true_eq_false, not_false_eq_true, if_true, if_false, decide_true, decide_false, Int.toNat_natCast, Int.natCast_nonneg, List.drop_zero, List.take_zero, List.take_succ_cons, List.drop_succ_cons, readC, allOne, Bool.and_self, Bool.and_true, Bool.true_and, fillL, beq_self_eq_true, Nat.one_mul, List.drop_nil, resE, tupled, List.map_nil, List.map_cons, Option.map_some, ↓reduceIte, Nat.reduceEqDiff, Int.reduceEq, Int.reduceLT, Int.reduceLE, Nat.reduceAdd, Nat.reduceMul, Nat.reduceLT, Nat.reduceLeDiff, reduceCtorEq, List.length_nil, List.length_cons, Nat.add_zero, Nat.sub_zero, List.nil_append, List.cons_append, List.getElem?_cons_zero, List.getElem?_cons_succ, List.set_cons_zero, List.set_cons_succ, rp, hr, hrr, hlp, hrd, sp, hck, hcr, num_px, a1, a2, runE_none l33, fn_nil, List.append_nil]
    refine go 5 7 _ _ ?_ ?_ ?_ ?_ ?_ ?_ ?_ ?_ ?_ rfl rfl rfl rfl rfl rfl rfl (by omega) <;> simp only [upd_app, updD_some, updD_none, ↓reduceIte, Nat.reduceEqDiff, if_true, if_false, List.length_append, List.length_cons, List.length_nil, Nat.zero_add, Nat.add_zero, cast_succ, argE_zero, argE_succ]
end Go.Proofs.Ytjlgpfolnhilfaa
