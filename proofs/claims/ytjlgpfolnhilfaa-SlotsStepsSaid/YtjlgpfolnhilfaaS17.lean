/- THE WALK OF Tidy, at a settled row, and at one with one slot that counts for nothing. No condition but those stated. -/
import Derived.Test.YtjlgpfolnhilfaaS16
import Derived.Test.YtjlgpfolnhilfaaS11
set_option linter.unusedSimpArgs false
set_option linter.unusedVariables false
set_option linter.unusedSectionVars false
namespace Go.Proofs.Ytjlgpfolnhilfaa
open Go Go.Am Go.Slots
set_option maxHeartbeats 4000000
set_option maxRecDepth 10000
theorem mrow_px {f : FuncId} {H : Heap} {i : Nat} {ps : List (Int × Int)} {left : Int} (hl : (cbL tab).lent f = true) (h : H[i]? = some (.cells (encs pairA ps))) :
    pcx (cbL tab) f [.agg [.msl 1 i 0 (2 * ps.length), .int .u64 left]] H = pcx (cbL tab) f [rowV (2 * ps.length) (encs pairA ps ++ []) .ro left] H :=
  pcx_pic hl (by rw [List.map_cons, List.map_nil, lendK_mrow left h]) (by rw [List.map_cons, List.map_nil, lendK_rowV])
theorem mrow_px3 {f : FuncId} {H : Heap} {i : Nat} {ps : List (Int × Int)} {left d m : Int} (hl : (cbL tab).lent f = true) (h : H[i]? = some (.cells (encs pairA ps))) :
    pcx (cbL tab) f [.agg [.msl 1 i 0 (2 * ps.length), .int .u64 left], .int .i64 d, .int .i64 m] H = pcx (cbL tab) f [rowV (2 * ps.length) (encs pairA ps ++ []) .ro left, .int .i64 d, .int .i64 m] H :=
  pcx_pic hl (by rw [List.map_cons, List.map_cons, List.map_cons, List.map_nil, lendK_mrow left h, lendK_int, lendK_int]) (by rw [List.map_cons, List.map_cons, List.map_cons, List.map_nil, lendK_rowV, lendK_int, lendK_int])
theorem mwords_px {f : FuncId} {H : Heap} {i : Nat} {ps : List (Int × Int)} (hl : (cbL tab).lent f = true) (h : H[i]? = some (.cells (encs pairA ps))) :
    pcx (cbL tab) f [.msl 1 i 0 (2 * ps.length)] H = pcx (cbL tab) f [.sl 1 (2 * ps.length) (encs pairA ps) .ro] H :=
  pcx_pic hl (by rw [List.map_cons, List.map_nil, lendK_msl h]) (by rw [List.map_cons, List.map_nil, lendK_sl])
theorem mwords_px2 {f : FuncId} {H : Heap} {i : Nat} {ps : List (Int × Int)} {j : Int} (hl : (cbL tab).lent f = true) (h : H[i]? = some (.cells (encs pairA ps))) :
    pcx (cbL tab) f [.msl 1 i 0 (2 * ps.length), .int .i64 j] H = pcx (cbL tab) f [row ps [] .ro, .int .i64 j] H :=
  pcx_pic hl (by rw [List.map_cons, List.map_cons, List.map_nil, lendK_msl h, lendK_int, row, List.append_nil]) (by rw [List.map_cons, List.map_cons, List.map_nil, row, lendK_sl, lendK_int])
theorem cn76 (L : AV) (H : Heap) : pcx (cbL tab) 76 [L, .ptr 3 0, .ptr 0 0] H = none :=
  pcx_none rfl (pc_none (fi := c76) rfl (by simp [pcOn, c76, hfL, AV.hf, lend, unown]))
theorem l76 : (cbL tab).lent 76 = false := rfl
theorem does_ic (left : Int) (ps l out : List (Int × Int)) (tk : Tk) (v : AV) (H : Heap) (hps : ps ≠ []) (hn : ps.length ≤ 1000) (hl0 : l ≠ []) (hl : l.length ≤ 1000) (hout : out.length ≤ 1000) (hw : ∀ p ∈ l, 0 ≤ p.1 ∧ p.1 < 2 * (ps.length : Int))
    (h0 : H[0]? = some (.cells [v])) (h2 : H[2]? = some (.cells (encs pairA ps))) (h3 : H[3]? = some (.cells [.msl 1 2 0 (2 * ps.length), .int .u64 left])) (ho : Own H 2 v out.length (encs putA out)) (hv : ∀ a b c, v ≠ .sl a b c .e) :
    ∃ o H', (cbL tab).ic 76 [.sl 2 l.length (encs putA l) tk, .ptr 3 0, .ptr 0 0] H = some (o, H') ∧ o = .ret (.tup []) ∧ H'[2]? = some (.cells (encs pairA (appP ps l))) ∧ H'[3]? = H[3]? ∧ (∀ y, H[1]? = some (.cells [y]) → H'[1]? = some (.cells [y])) ∧ H.length ≤ H'.length ∧
      ∃ v', H'[0]? = some (.cells [v']) ∧ Own H' 2 v' (out ++ l).length (encs putA (out ++ l)) ∧ (∀ a b c, v' ≠ .sl a b c .e) := by
  refine ic_wp (tab := tab) (f := 76) (fi := c76) (args := [.sl 2 l.length (encs putA l) tk, .ptr 3 0, .ptr 0 0]) (H := H) (P := fun o H' => o = .ret (.tup []) ∧ H'[2]? = some (.cells (encs pairA (appP ps l))) ∧ H'[3]? = H[3]? ∧ (∀ y, H[1]? = some (.cells [y]) → H'[1]? = some (.cells [y])) ∧ H.length ≤ H'.length ∧
      ∃ v', H'[0]? = some (.cells [v']) ∧ Own H' 2 v' (out ++ l).length (encs putA (out ++ l)) ∧ (∀ a b c, v' ≠ .sl a b c .e)) rfl (by simp [pcOn, c76, hfL, AV.hf, lend, unown]) (by simp [c76]) (by decide) ?_
  unfold c76
  have hp0 : 0 < ps.length := List.length_pos_iff.2 hps
  have hlen3 : 3 < H.length := (List.getElem?_eq_some_iff.1 h3).1
  simp (disch := omega) only [wk1, wk2, wk3, wk4, wk5, wk6, avalE, aactE, evPE, boundE, asNat, Nat.zero_mul, Int.tdiv_eq_ediv_of_nonneg, Int.tmod_eq_emod_of_nonneg, List.length_append, Nat.mul_one, bv_seql cellsEq_ii, bv_sneqd cellsEq_ii, Bool.not_false, Bool.not_true, decide_eq_true_eq, Bool.not_eq_true, eq_self, ne_eq, and_true, true_and, and_self, not_true_eq_false, not_false_eq_true, if_true, if_false, decide_true, decide_false, Int.toNat_natCast, Int.natCast_nonneg, List.drop_zero, List.take_zero, List.take_succ_cons, List.drop_succ_cons, readC, allOne, Bool.and_self, Bool.and_true, Bool.true_and, fillL, beq_self_eq_true, Nat.one_mul, List.drop_nil, resE, tupled, List.map_nil, List.map_cons, Option.map_some, ↓reduceIte, Nat.reduceEqDiff, Int.reduceEq, Int.reduceLT, Int.reduceLE, Nat.reduceAdd, Nat.reduceMul, Nat.reduceLT, Nat.reduceLeDiff, reduceCtorEq, List.length_nil, List.length_cons, Nat.add_zero, Nat.sub_zero, List.nil_append, List.cons_append, List.getElem?_cons_zero, List.getElem?_cons_succ, List.set_cons_zero, List.set_cons_succ]
  refine loop_ind (fun (x : List (Int × Int) × List (Int × Int)) E df H' => l = x.1 ++ x.2 ∧ E 0 = .sl 2 l.length (encs putA l) tk ∧ E 1 = .ptr 3 0 ∧ E 2 = .ptr 0 0 ∧ E 6 = .sl 2 l.length (encs putA l) tk ∧ E 7 = .int .i64 (l.length : Nat) ∧ E 8 = .int .i64 (x.1.length : Nat) ∧ df = [] ∧
      H'[2]? = some (.cells (encs pairA (appP ps x.1))) ∧ (∀ i o, i ≠ 2 → H[i]? = some o → H'[i]? = some o) ∧ H.length ≤ H'.length)
    (fun x => x.2.length) ([], l) (by decide) (.inl rfl) ⟨rfl, rfl, rfl, rfl, rfl, rfl, rfl, rfl, h2, fun _ _ _ h => h, Nat.le_refl _⟩ ?_
  intro ⟨pre, suf⟩ E df H1 ih hP
  obtain ⟨a1, E0, E1, E2, E6, E7, E8, hdf, g2, gk, gl⟩ := hP
  dsimp only at a1 E8 g2
  subst hdf
  have hll : l.length = pre.length + suf.length := by rw [a1, List.length_append]
  cases suf with
  | nil =>
    simp only [List.append_nil, List.length_nil, Nat.add_zero] at a1 hll
    subst a1
    have j0 := gk 0 _ (by decide) h0
    have j3 := gk 3 _ (by decide) h3
    have ho1 : Own H1 2 v out.length (encs putA out) := by
      rcases ho with h | ⟨q0, g, q1, q2⟩
      · exact .inl h
      · refine .inr ⟨q0, g, q1, gk g _ ?_ q2⟩
        intro e
        subst e
        rw [h2] at q2
        cases q2
    simp (disch := omega) only [wk1, wk2, wk3, wk4, wk5, wk6, avalE, aactE, evPE, boundE, asNat, Nat.zero_mul, Int.tdiv_eq_ediv_of_nonneg, Int.tmod_eq_emod_of_nonneg, List.length_append, Nat.mul_one, bv_seql cellsEq_ii, bv_sneqd cellsEq_ii, Bool.not_false, Bool.not_true, decide_eq_true_eq, Bool.not_eq_true, eq_self, ne_eq, and_true, true_and, and_self, not_true_eq_false, not_false_eq_true, if_true, if_false, decide_true, decide_false, Int.toNat_natCast, Int.natCast_nonneg, List.drop_zero, List.take_zero, List.take_succ_cons, List.drop_succ_cons, readC, allOne, Bool.and_self, Bool.and_true, Bool.true_and, fillL, beq_self_eq_true, Nat.one_mul, List.drop_nil, resE, tupled, List.map_nil, List.map_cons, Option.map_some, ↓reduceIte, Nat.reduceEqDiff, Int.reduceEq, Int.reduceLT, Int.reduceLE, Nat.reduceAdd, Nat.reduceMul, Nat.reduceLT, Nat.reduceLeDiff, reduceCtorEq, List.length_nil, List.length_cons, Nat.add_zero, Nat.sub_zero, List.nil_append, List.cons_append, List.getElem?_cons_zero, List.getElem?_cons_succ, List.set_cons_zero, List.set_cons_succ, E0, E1, E2, E6, E7, E8, j0]
    refine runX_app ho1 (by omega) (by omega) (by omega) (by intro e; exact hl0 (List.length_eq_zero_iff.1 e)) (by rw [encs_length]) (allOne_encs (fun _ => rfl) _) (fun H' q1 q2 q3 => ?_)
    generalize hv' : AV.sl 2 (out.length + l.length) _ _ = v2 at q1
    have v2o : v2.one = true ∧ v2.flat = [v2] := by rw [← hv']; exact ⟨rfl, rfl⟩
    have v2e : ∀ a b c, v2 ≠ .sl a b c .e := by intro a b c e; rw [← hv'] at e; cases e
    have k0 := q2.cells ho1 rfl j0 (by intro s e; cases e)
    have k2 := q2.cells ho1 rfl g2 (by intro s e; cases e)
    have k3 := q2.cells ho1 rfl j3 (by intro s e; cases e)
    simp (disch := omega) only [wk1, wk2, wk3, wk4, wk5, wk6, avalE, aactE, evPE, boundE, asNat, Nat.zero_mul, Int.tdiv_eq_ediv_of_nonneg, Int.tmod_eq_emod_of_nonneg, List.length_append, Nat.mul_one, bv_seql cellsEq_ii, bv_sneqd cellsEq_ii, Bool.not_false, Bool.not_true, decide_eq_true_eq, Bool.not_eq_true, eq_self, ne_eq, and_true, true_and, and_self, not_true_eq_false, not_false_eq_true, if_true, if_false, decide_true, decide_false, Int.toNat_natCast, Int.natCast_nonneg, List.drop_zero, List.take_zero, List.take_succ_cons, List.drop_succ_cons, readC, allOne, Bool.and_self, Bool.and_true, Bool.true_and, fillL, beq_self_eq_true, Nat.one_mul, List.drop_nil, resE, tupled, List.map_nil, List.map_cons, Option.map_some, ↓reduceIte, Nat.reduceEqDiff, Int.reduceEq, Int.reduceLT, Int.reduceLE, Nat.reduceAdd, Nat.reduceMul, Nat.reduceLT, Nat.reduceLeDiff, reduceCtorEq, List.length_nil, List.length_cons, Nat.add_zero, Nat.sub_zero, List.nil_append, List.cons_append, List.getElem?_cons_zero, List.getElem?_cons_succ, List.set_cons_zero, List.set_cons_succ, E2, k0, v2o.1, v2o.2, List.append_nil]
    refine ⟨?_, ?_, ?_, ?_, v2, set_eq k0, ?_, v2e⟩
    · rw [set_ne (by decide)]; exact k2
    · rw [set_ne (by decide), k3, h3]
    · intro y hy
      have := q2.cells ho1 rfl (gk 1 _ (by decide) hy) (by intro s e; cases e)
      rw [set_ne (by decide)]; exact this
    · simp only [List.length_set]; omega
    · rw [encs_append]
      exact q1.set k0 (by intro s e; cases e)
  | cons x r =>
    simp only [List.length_cons] at hll
    obtain ⟨x1, x2⟩ := x
    obtain ⟨b1, b2⟩ := hw (x1, x2) (by rw [a1]; simp)
    dsimp only at b1 b2
    have hl2 : 2 < H1.length := (List.getElem?_eq_some_iff.1 g2).1
    have j3 := gk 3 _ (by decide) h3
    have f1 : ∀ o : AObj, (H1 ++ [o])[H1.length]? = some o := fun o => by simp
    have f2 : ∀ o o' : AObj, ((H1 ++ [o]).set H1.length o')[H1.length]? = some o' := fun o o' => by simp
    have f3 : ∀ o o' : AObj, ((H1 ++ [o]).set H1.length o')[3]? = H1[3]? := fun o o' => by
      rw [set_ne (by omega), List.getElem?_append_left (by omega)]
    have f4 : ∀ o o' : AObj, ((H1 ++ [o]).set H1.length o')[2]? = H1[2]? := fun o o' => by
      rw [set_ne (by omega), List.getElem?_append_left (by omega)]
    have hla : (encs pairA (appP ps pre)).length = 2 * ps.length := by rw [encs_length (k := 2), appP_len]; omega
    have hstep : appP ps (pre ++ [(x1, x2)]) = setP (appP ps pre) (x1, x2) := by simp [appP, List.foldl_append]
    have dd : List.drop (pre.length * 2) (encs putA l) = .int .i64 x1 :: .int .u64 x2 :: encs putA r := by rw [a1, drop_pre, encs_cons]; rfl
    simp (disch := omega) only [wk1, wk2, wk3, wk4, wk5, wk6, avalE, aactE, evPE, boundE, asNat, Nat.zero_mul, Int.tdiv_eq_ediv_of_nonneg, Int.tmod_eq_emod_of_nonneg, List.length_append, Nat.mul_one, bv_seql cellsEq_ii, bv_sneqd cellsEq_ii, Bool.not_false, Bool.not_true, decide_eq_true_eq, Bool.not_eq_true, eq_self, ne_eq, and_true, true_and, and_self, not_true_eq_false, not_false_eq_true, if_true, if_false, decide_true, decide_false, Int.toNat_natCast, Int.natCast_nonneg, List.drop_zero, List.take_zero, List.take_succ_cons, List.drop_succ_cons, readC, allOne, Bool.and_self, Bool.and_true, Bool.true_and, fillL, beq_self_eq_true, Nat.one_mul, List.drop_nil, resE, tupled, List.map_nil, List.map_cons, Option.map_some, ↓reduceIte, Nat.reduceEqDiff, Int.reduceEq, Int.reduceLT, Int.reduceLE, Nat.reduceAdd, Nat.reduceMul, Nat.reduceLT, Nat.reduceLeDiff, reduceCtorEq, List.length_nil, List.length_cons, Nat.add_zero, Nat.sub_zero, List.nil_append, List.cons_append, List.getElem?_cons_zero, List.getElem?_cons_succ, List.set_cons_zero, List.set_cons_succ, E0, E1, E2, E6, E7, E8, dd, f1, f2, f3, f4, j3, g2]
    refine ih (pre ++ [(x1, x2)], r) _ _ _ (by simp) ?_
    refine ⟨by simp [a1], by simp only [upd_app, updD_some, updD_none, ↓reduceIte, Nat.reduceEqDiff, if_true, if_false, List.length_append, List.length_cons, List.length_nil, Nat.zero_add, Nat.add_zero, cast_succ, argE_zero, argE_succ, E0], by simp only [upd_app, updD_some, updD_none, ↓reduceIte, Nat.reduceEqDiff, if_true, if_false, List.length_append, List.length_cons, List.length_nil, Nat.zero_add, Nat.add_zero, cast_succ, argE_zero, argE_succ, E1], by simp only [upd_app, updD_some, updD_none, ↓reduceIte, Nat.reduceEqDiff, if_true, if_false, List.length_append, List.length_cons, List.length_nil, Nat.zero_add, Nat.add_zero, cast_succ, argE_zero, argE_succ, E2], by simp only [upd_app, updD_some, updD_none, ↓reduceIte, Nat.reduceEqDiff, if_true, if_false, List.length_append, List.length_cons, List.length_nil, Nat.zero_add, Nat.add_zero, cast_succ, argE_zero, argE_succ, E6], by simp only [upd_app, updD_some, updD_none, ↓reduceIte, Nat.reduceEqDiff, if_true, if_false, List.length_append, List.length_cons, List.length_nil, Nat.zero_add, Nat.add_zero, cast_succ, argE_zero, argE_succ, E7], by simp only [upd_app, updD_some, updD_none, ↓reduceIte, Nat.reduceEqDiff, if_true, if_false, List.length_append, List.length_cons, List.length_nil, Nat.zero_add, Nat.add_zero, cast_succ, argE_zero, argE_succ], rfl, ?_, ?_, ?_⟩
    · rw [set_eq (by rw [f4]; exact g2)]
      dsimp only
      rw [hstep, ← setP_cells _ _ b1]
      rw [List.set_eq_take_append_cons_drop, if_pos (by dsimp only; omega), Nat.zero_add, List.append_assoc]
      rfl
    · intro i o hi ho'
      have := gk i o hi ho'
      have hil := (List.getElem?_eq_some_iff.1 this).1
      rw [set_ne (by omega), set_ne (by omega), List.getElem?_append_left hil]
      exact this
    · simp only [List.length_set, List.length_append, List.length_singleton]; omega
theorem shF_at (j c : Nat) (l : List (Int × Int)) : ∀ p ∈ shF j c l, 2 * (j : Int) ≤ p.1 ∧ p.1 < 2 * (j : Int) + 2 * (c : Int) := by
  induction c generalizing j l with
  | zero => intro p hp; simp [shF] at hp
  | succ c ih =>
    cases l with
    | nil => intro p hp; simp [shF] at hp
    | cons y r =>
      intro p hp
      rw [shF, List.mem_cons, List.mem_cons] at hp
      rcases hp with rfl | rfl | hp
      · simp only; omega
      · simp only; omega
      · have := ih (j + 1) r p hp
        omega
/-- Tidy, at a row that is settled (with no slot that counts for nothing), or has one such slot. -/
theorem tidy_pc (left : Int) (ps res : List (Int × Int)) (hr : right left (2 * ps.length))
    (hcase : (okL left ps ∧ emF left 0 ps = none ∧ res = []) ∨
      ∃ d m, emF left 0 ps = some d ∧ rawL ps = m ∧ d < m ∧ m ≤ ps.length ∧ res = shiftM ps d m ∧ (∀ p ∈ res, 0 ≤ p.1 ∧ p.1 < 2 * (ps.length : Int)) ∧ okL left (appP ps res) ∧ emF left 0 (appP ps res) = none) :
    (cbL tab).pc 37 [.int .u64 left, row ps [] .ro] = some (.plain (resT (res, 0))) := by
  have hn := hr.2.2.2
  have h4 := hr.2.2.1
  have hpl : (encs pairA ps).length = 2 * ps.length := by rw [encs_length (k := 2)]; omega
  have hne : ps ≠ [] := by intro e; rw [e] at h4; simp at h4
  have hsc : (encs pairA ps).all (·.scal) = true := scal_pairA ps
  refine pc_wp (fi := c37) rfl ?_ (by simp [c37]) (by decide) ?_
  · simp only [pcOn, List.map_cons, List.map_nil, hfL, hf_lend_sl, hf_lend_int, hf_lend_bool, hf_lend_str, hfL_append, Bool.and_self, Bool.and_true, Bool.true_and, c37, row, hf_pairA]
  unfold c37
  have e1 : lend (row ps [] .ro) = .sl 1 (2 * ps.length) (encs pairA ps) .ro := by rw [row, List.append_nil]; rfl
  rw [List.map_cons, List.map_cons, List.map_nil, lend_int, e1]
  have cl : ∀ H, enterM (cbL tab) 75 [.sl 1 (2 * ps.length) (encs pairA ps) .ro] H = some (.ret (.msl 1 H.length 0 (2 * ps.length)), H ++ [.cells (encs pairA ps)]) := by
    intro H
    rw [enterM, clone_px (2 * ps.length) (encs pairA ps) H (by omega) (by omega) hpl (hf_pairA ps) (allOne_encs (fun _ => rfl) ps)]
    simp only [hsc, hpl, Nat.mul_one, beq_self_eq_true, Bool.and_self, if_true]
  have rt : pcx (cbL tab) 69 [.agg [.msl 1 2 0 (2 * ps.length), .int .u64 left]] [.cells [.sl 0 0 [] .z], .cells [.int .i64 0], .cells (encs pairA ps), .cells [.msl 1 2 0 (2 * ps.length), .int .u64 left]] = some (.plain (.bool true)) := by
    rw [mrow_px rfl rfl, slotsright_px left _ _ _ _ (by omega) (by rw [List.append_nil]; exact hf_pairA ps) rfl]
    simp [hr]
  simp (disch := omega) only [wk1, wk2, wk3, wk4, wk5, wk6, avalE, aactE, evPE, boundE, asNat, Nat.zero_mul, Int.tdiv_eq_ediv_of_nonneg, Int.tmod_eq_emod_of_nonneg, List.length_append, Nat.mul_one, bv_seql cellsEq_ii, bv_sneqd cellsEq_ii, Bool.not_false, Bool.not_true, decide_eq_true_eq, Bool.not_eq_true, eq_self, ne_eq, and_true, true_and, and_self, not_true_eq_false, not_false_eq_true, if_true, if_false, decide_true, decide_false, Int.toNat_natCast, Int.natCast_nonneg, List.drop_zero, List.take_zero, List.take_succ_cons, List.drop_succ_cons, readC, allOne, Bool.and_self, Bool.and_true, Bool.true_and, fillL, beq_self_eq_true, Nat.one_mul, List.drop_nil, resE, tupled, List.map_nil, List.map_cons, Option.map_some, ↓reduceIte, Nat.reduceEqDiff, Int.reduceEq, Int.reduceLT, Int.reduceLE, Nat.reduceAdd, Nat.reduceMul, Nat.reduceLT, Nat.reduceLeDiff, reduceCtorEq, List.length_nil, List.length_cons, Nat.add_zero, Nat.sub_zero, List.nil_append, List.cons_append, List.getElem?_cons_zero, List.getElem?_cons_succ, List.set_cons_zero, List.set_cons_succ, cl, rt, must_t]
  refine loop_ind (fun (x : Bool × List (Int × Int) × List (Int × Int)) E df H => x.2.1.length = ps.length ∧
      ((x.1 = false ∧ okL left x.2.1 ∧ emF left 0 x.2.1 = none ∧ res = x.2.2) ∨
        (x.1 = true ∧ x.2.1 = ps ∧ x.2.2 = [] ∧ ∃ d m, emF left 0 ps = some d ∧ rawL ps = m ∧ d < m ∧ m ≤ ps.length ∧ res = shiftM ps d m ∧ (∀ p ∈ res, 0 ≤ p.1 ∧ p.1 < 2 * (ps.length : Int)) ∧ okL left (appP ps res) ∧ emF left 0 (appP ps res) = none)) ∧
      E 4 = .ptr 0 0 ∧ E 5 = .ptr 1 0 ∧ E 6 = .ptr 3 0 ∧ E 7 = .fn 76 [.ptr 3 0, .ptr 0 0] ∧ df = [.call 48 [.ptr 1 0, .fn 74 [.ptr 0 0]]] ∧
      H[1]? = some (.cells [.int .i64 0]) ∧ H[2]? = some (.cells (encs pairA x.2.1)) ∧ H[3]? = some (.cells [.msl 1 2 0 (2 * x.2.1.length), .int .u64 left]) ∧
      ∃ v, H[0]? = some (.cells [v]) ∧ Own H 2 v x.2.2.length (encs putA x.2.2) ∧ (∀ a b c, v ≠ .sl a b c .e))
    (fun x => if x.1 then 1 else 0) (match emF left 0 ps with | none => false | some _ => true, ps, []) (by decide) (.inl rfl) ⟨rfl, ?_, by simp only [upd_app, updD_some, updD_none, ↓reduceIte, Nat.reduceEqDiff, if_true, if_false, List.length_append, List.length_cons, List.length_nil, Nat.zero_add, Nat.add_zero, cast_succ, argE_zero, argE_succ], by simp only [upd_app, updD_some, updD_none, ↓reduceIte, Nat.reduceEqDiff, if_true, if_false, List.length_append, List.length_cons, List.length_nil, Nat.zero_add, Nat.add_zero, cast_succ, argE_zero, argE_succ], by simp only [upd_app, updD_some, updD_none, ↓reduceIte, Nat.reduceEqDiff, if_true, if_false, List.length_append, List.length_cons, List.length_nil, Nat.zero_add, Nat.add_zero, cast_succ, argE_zero, argE_succ], by simp only [upd_app, updD_some, updD_none, ↓reduceIte, Nat.reduceEqDiff, if_true, if_false, List.length_append, List.length_cons, List.length_nil, Nat.zero_add, Nat.add_zero, cast_succ, argE_zero, argE_succ], rfl, rfl, rfl, rfl, .sl 0 0 [] .z, rfl, .inl ⟨.inl rfl, rfl, rfl⟩, by intro a b c e; cases e⟩ ?_
  · rcases hcase with ⟨q1, q2, q3⟩ | ⟨d, m, q1, q2⟩
    · left; rw [q2]; exact ⟨rfl, q1, rfl, q3⟩
    · right; rw [q1]; exact ⟨rfl, rfl, rfl, d, m, rfl, q2⟩
  intro ⟨b, xs, out⟩ E df H ih hP
  obtain ⟨hxl, hst, E4, E5, E6, E7, hdf, g1, g2, g3, v, g0, ho, hv⟩ := hP
  dsimp only at hxl hst g2 g3 ho
  subst hdf
  have em := mrow_px (f := 77) (left := left) rfl g2
  rw [empty_px left xs [] .ro H (by omega) rfl rfl] at em
  have rw1 := mrow_px (f := 70) (left := left) rfl g2
  rw [slotsraw_px left xs [] .ro H (by omega) rfl rfl] at rw1
  rcases hst with ⟨rfl, s1, s2, s3⟩ | ⟨rfl, rfl, rfl, d, m, s1, s2, s3, s4, s5, s6, s7, s8⟩
  · rw [s2, emV] at em
    have mn := mwords_px (f := 52) rfl g2
    rw [many_px (2 * xs.length) (encs pairA xs) .ro H (by omega) (hf_pairA xs) rfl] at mn
    have hr2 : right left (2 * xs.length) := by rw [hxl]; exact hr
    have hraw : rawL xs < xs.length := by rw [← s1.2.2.1]; exact s1.2.2.2.1
    have hz : zeroL (xs.drop (rawL xs)) := by rw [← s1.2.2.1]; exact s1.2.2.2.2
    have st := mrow_px (f := 61) (left := left) rfl g2
    rw [settled_yes xs [] .ro left H rfl rfl hr2, if_pos s1] at st
    simp (disch := omega) only [wk1, wk2, wk3, wk4, wk5, wk6, avalE, aactE, evPE, boundE, asNat, Nat.zero_mul, Int.tdiv_eq_ediv_of_nonneg, Int.tmod_eq_emod_of_nonneg, List.length_append, Nat.mul_one, bv_seql cellsEq_ii, bv_sneqd cellsEq_ii, Bool.not_false, Bool.not_true, decide_eq_true_eq, Bool.not_eq_true, eq_self, ne_eq, and_true, true_and, and_self, not_true_eq_false, not_false_eq_true, if_true, if_false, decide_true, decide_false, Int.toNat_natCast, Int.natCast_nonneg, List.drop_zero, List.take_zero, List.take_succ_cons, List.drop_succ_cons, readC, allOne, Bool.and_self, Bool.and_true, Bool.true_and, fillL, beq_self_eq_true, Nat.one_mul, List.drop_nil, resE, tupled, List.map_nil, List.map_cons, Option.map_some, ↓reduceIte, Nat.reduceEqDiff, Int.reduceEq, Int.reduceLT, Int.reduceLE, Nat.reduceAdd, Nat.reduceMul, Nat.reduceLT, Nat.reduceLeDiff, reduceCtorEq, List.length_nil, List.length_cons, Nat.add_zero, Nat.sub_zero, List.nil_append, List.cons_append, List.getElem?_cons_zero, List.getElem?_cons_succ, List.set_cons_zero, List.set_cons_succ, E4, E5, E6, E7, em, g3, mn]
    refine loop_ind (fun (k : Nat) E df H' => rawL xs + k + 1 ≤ xs.length ∧ E 4 = .ptr 0 0 ∧ E 5 = .ptr 1 0 ∧ E 6 = .ptr 3 0 ∧ E 7 = .fn 76 [.ptr 3 0, .ptr 0 0] ∧ E 10 = .int .i64 ((rawL xs + k : Nat) : Int) ∧ df = [.call 48 [.ptr 1 0, .fn 74 [.ptr 0 0]]] ∧ H' = H)
      (fun k => k) (xs.length - 1 - rawL xs) (by decide) (.inl rfl) ⟨by omega, by simp only [upd_app, updD_some, updD_none, ↓reduceIte, Nat.reduceEqDiff, if_true, if_false, List.length_append, List.length_cons, List.length_nil, Nat.zero_add, Nat.add_zero, cast_succ, argE_zero, argE_succ, E4], by simp only [upd_app, updD_some, updD_none, ↓reduceIte, Nat.reduceEqDiff, if_true, if_false, List.length_append, List.length_cons, List.length_nil, Nat.zero_add, Nat.add_zero, cast_succ, argE_zero, argE_succ, E5], by simp only [upd_app, updD_some, updD_none, ↓reduceIte, Nat.reduceEqDiff, if_true, if_false, List.length_append, List.length_cons, List.length_nil, Nat.zero_add, Nat.add_zero, cast_succ, argE_zero, argE_succ, E6], by simp only [upd_app, updD_some, updD_none, ↓reduceIte, Nat.reduceEqDiff, if_true, if_false, List.length_append, List.length_cons, List.length_nil, Nat.zero_add, Nat.add_zero, cast_succ, argE_zero, argE_succ, E7], ?_, rfl, rfl⟩ ?_
    · simp only [upd_app, updD_some, updD_none, ↓reduceIte, Nat.reduceEqDiff, if_true, if_false, List.length_append, List.length_cons, List.length_nil, Nat.zero_add, Nat.add_zero, cast_succ, argE_zero, argE_succ]
      congr 1
      omega
    intro k E df H' ih2 hP
    obtain ⟨b1, E4, E5, E6, E7, E10, hdf, hH⟩ := hP
    subst hdf hH
    by_cases hk : k = 0
    case neg =>
      have hlt : rawL xs + k < xs.length := by omega
      have hxs : xs = xs.take (rawL xs + k) ++ xs[rawL xs + k] :: xs.drop (rawL xs + k + 1) := by
        rw [← List.drop_eq_getElem_cons hlt, List.take_append_drop]
      have hl : (xs.take (rawL xs + k)).length = rawL xs + k := by rw [List.length_take]; omega
      have p1 := mwords_px2 (f := 71) (j := ((rawL xs + k : Nat) : Int)) rfl g2
      have p2 := ptr_px (xs.take (rawL xs + k)) xs[rawL xs + k] (xs.drop (rawL xs + k + 1)) [] .ro H' (by rw [← hxs]; omega) rfl rfl
      rw [← hxs, hl] at p2
      have hx0 : (xs[rawL xs + k]).2 = 0 := by
        refine hz _ ?_
        rw [List.mem_iff_getElem?]
        exact ⟨k, by rw [List.getElem?_drop]; simp [hlt]⟩
      rw [p2, hx0] at p1
      simp (disch := omega) only [wk1, wk2, wk3, wk4, wk5, wk6, avalE, aactE, evPE, boundE, asNat, Nat.zero_mul, Int.tdiv_eq_ediv_of_nonneg, Int.tmod_eq_emod_of_nonneg, List.length_append, Nat.mul_one, bv_seql cellsEq_ii, bv_sneqd cellsEq_ii, Bool.not_false, Bool.not_true, decide_eq_true_eq, Bool.not_eq_true, eq_self, ne_eq, and_true, true_and, and_self, not_true_eq_false, not_false_eq_true, if_true, if_false, decide_true, decide_false, Int.toNat_natCast, Int.natCast_nonneg, List.drop_zero, List.take_zero, List.take_succ_cons, List.drop_succ_cons, readC, allOne, Bool.and_self, Bool.and_true, Bool.true_and, fillL, beq_self_eq_true, Nat.one_mul, List.drop_nil, resE, tupled, List.map_nil, List.map_cons, Option.map_some, ↓reduceIte, Nat.reduceEqDiff, Int.reduceEq, Int.reduceLT, Int.reduceLE, Nat.reduceAdd, Nat.reduceMul, Nat.reduceLT, Nat.reduceLeDiff, reduceCtorEq, List.length_nil, List.length_cons, Nat.add_zero, Nat.sub_zero, List.nil_append, List.cons_append, List.getElem?_cons_zero, List.getElem?_cons_succ, List.set_cons_zero, List.set_cons_succ, E4, E5, E6, E7, E10, g3, rw1, p1]
      refine ih2 (k - 1) _ _ _ (by omega) ⟨by omega, by simp only [upd_app, updD_some, updD_none, ↓reduceIte, Nat.reduceEqDiff, if_true, if_false, List.length_append, List.length_cons, List.length_nil, Nat.zero_add, Nat.add_zero, cast_succ, argE_zero, argE_succ, E4], by simp only [upd_app, updD_some, updD_none, ↓reduceIte, Nat.reduceEqDiff, if_true, if_false, List.length_append, List.length_cons, List.length_nil, Nat.zero_add, Nat.add_zero, cast_succ, argE_zero, argE_succ, E5], by simp only [upd_app, updD_some, updD_none, ↓reduceIte, Nat.reduceEqDiff, if_true, if_false, List.length_append, List.length_cons, List.length_nil, Nat.zero_add, Nat.add_zero, cast_succ, argE_zero, argE_succ, E6], by simp only [upd_app, updD_some, updD_none, ↓reduceIte, Nat.reduceEqDiff, if_true, if_false, List.length_append, List.length_cons, List.length_nil, Nat.zero_add, Nat.add_zero, cast_succ, argE_zero, argE_succ, E7], ?_, rfl, rfl⟩
      simp only [upd_app, updD_some, updD_none, ↓reduceIte, Nat.reduceEqDiff, if_true, if_false, List.length_append, List.length_cons, List.length_nil, Nat.zero_add, Nat.add_zero, cast_succ, argE_zero, argE_succ]
      congr 1
      omega
    subst hk
    simp (disch := omega) only [wk1, wk2, wk3, wk4, wk5, wk6, avalE, aactE, evPE, boundE, asNat, Nat.zero_mul, Int.tdiv_eq_ediv_of_nonneg, Int.tmod_eq_emod_of_nonneg, List.length_append, Nat.mul_one, bv_seql cellsEq_ii, bv_sneqd cellsEq_ii, Bool.not_false, Bool.not_true, decide_eq_true_eq, Bool.not_eq_true, eq_self, ne_eq, and_true, true_and, and_self, not_true_eq_false, not_false_eq_true, if_true, if_false, decide_true, decide_false, Int.toNat_natCast, Int.natCast_nonneg, List.drop_zero, List.take_zero, List.take_succ_cons, List.drop_succ_cons, readC, allOne, Bool.and_self, Bool.and_true, Bool.true_and, fillL, beq_self_eq_true, Nat.one_mul, List.drop_nil, resE, tupled, List.map_nil, List.map_cons, Option.map_some, ↓reduceIte, Nat.reduceEqDiff, Int.reduceEq, Int.reduceLT, Int.reduceLE, Nat.reduceAdd, Nat.reduceMul, Nat.reduceLT, Nat.reduceLeDiff, reduceCtorEq, List.length_nil, List.length_cons, Nat.add_zero, Nat.sub_zero, List.nil_append, List.cons_append, List.getElem?_cons_zero, List.getElem?_cons_succ, List.set_cons_zero, List.set_cons_succ, E4, E5, E6, E7, E10, g3, rw1, st]
    refine runE_row (fun s tk' H1 hz ho1 htk hup hle => ?_)
    have j0 := hup 0 _ g0
    have j1 := hup 1 _ g1
    have ho2 : Own H1 2 v out.length (encs putA out) := ho.kept (g := none) (fun i o hi _ => hup i o hi) (.inl rfl)
    have vone : v.one = true := by rcases ho with ⟨rfl | rfl, _⟩ | ⟨_, g, rfl, _⟩ <;> rfl
    have vflat : v.flat = [v] := by rcases ho with ⟨rfl | rfl, _⟩ | ⟨_, g, rfl, _⟩ <;> rfl
    have k1 : (H1.set 0 (.cells [v]))[1]? = some (.cells [.int .i64 0]) := by rw [set_ne (by omega)]; exact j1
    have k2 : ((H1.set 0 (.cells [v])).set 1 (.cells [.int .i64 0]))[0]? = some (.cells [v]) := by rw [set_ne (by omega)]; exact set_eq j0
    have k3 : ((H1.set 0 (.cells [v])).set 1 (.cells [.int .i64 0]))[1]? = some (.cells [.int .i64 0]) := set_eq k1
    simp (disch := omega) only [wk1, wk2, wk3, wk4, wk5, wk6, avalE, aactE, evPE, boundE, asNat, Nat.zero_mul, Int.tdiv_eq_ediv_of_nonneg, Int.tmod_eq_emod_of_nonneg, List.length_append, Nat.mul_one, bv_seql cellsEq_ii, bv_sneqd cellsEq_ii, Bool.not_false, Bool.not_true, decide_eq_true_eq, Bool.not_eq_true, eq_self, ne_eq, and_true, true_and, and_self, not_true_eq_false, not_false_eq_true, if_true, if_false, decide_true, decide_false, Int.toNat_natCast, Int.natCast_nonneg, List.drop_zero, List.take_zero, List.take_succ_cons, List.drop_succ_cons, readC, allOne, Bool.and_self, Bool.and_true, Bool.true_and, fillL, beq_self_eq_true, Nat.one_mul, List.drop_nil, resE, tupled, List.map_nil, List.map_cons, Option.map_some, ↓reduceIte, Nat.reduceEqDiff, Int.reduceEq, Int.reduceLT, Int.reduceLE, Nat.reduceAdd, Nat.reduceMul, Nat.reduceLT, Nat.reduceLeDiff, reduceCtorEq, List.length_nil, List.length_cons, Nat.add_zero, Nat.sub_zero, List.nil_append, List.cons_append, List.getElem?_cons_zero, List.getElem?_cons_succ, List.set_cons_zero, List.set_cons_succ, E4, E5, j0, k1, vone, vflat, List.append_nil]
    rw [ends_left_ret (caught_ret _ _ _ _)]
    simp (disch := omega) only [wk1, wk2, wk3, wk4, wk5, wk6, avalE, aactE, evPE, boundE, asNat, Nat.zero_mul, Int.tdiv_eq_ediv_of_nonneg, Int.tmod_eq_emod_of_nonneg, List.length_append, Nat.mul_one, bv_seql cellsEq_ii, bv_sneqd cellsEq_ii, Bool.not_false, Bool.not_true, decide_eq_true_eq, Bool.not_eq_true, eq_self, ne_eq, and_true, true_and, and_self, not_true_eq_false, not_false_eq_true, if_true, if_false, decide_true, decide_false, Int.toNat_natCast, Int.natCast_nonneg, List.drop_zero, List.take_zero, List.take_succ_cons, List.drop_succ_cons, readC, allOne, Bool.and_self, Bool.and_true, Bool.true_and, fillL, beq_self_eq_true, Nat.one_mul, List.drop_nil, resE, tupled, List.map_nil, List.map_cons, Option.map_some, ↓reduceIte, Nat.reduceEqDiff, Int.reduceEq, Int.reduceLT, Int.reduceLE, Nat.reduceAdd, Nat.reduceMul, Nat.reduceLT, Nat.reduceLeDiff, reduceCtorEq, List.length_nil, List.length_cons, Nat.add_zero, Nat.sub_zero, List.nil_append, List.cons_append, List.getElem?_cons_zero, List.getElem?_cons_succ, List.set_cons_zero, List.set_cons_succ, E4, E5, k2, k3]
    have w1 := own_unown ho2 hv
    have u1 : unown (.int .i64 0) = .int .i64 0 := rfl
    simp only [purify, unownT, List.map_cons, List.map_nil, w1, u1, AV.hf, hfL, slvR_hf (f := putA) (fun _ => rfl), Bool.and_self, if_true, resT, s3]
  · rw [s1, emV] at em
    rw [s2] at rw1
    have sh := mrow_px3 (f := 63) (left := left) (d := (d : Nat)) (m := (m : Nat)) rfl g2
    rw [slotsshift_px xs [] .ro left d m H (by omega) rfl rfl s3 s4, ← s5] at sh
    have hne2 : res ≠ [] := by rw [s5]; simp [shiftM]
    have hpr : prRow 2 putA res = .fresh 2 res.length (encs putA res) := by
      have : res.isEmpty = false := by simpa using hne2
      simp [prRow, this]
    rw [hpr] at sh
    have hsl := shF_len d (m - 1 - d) (xs.drop (d + 1))
    have hrl : res.length ≤ 1000 := by rw [s5, shiftM, List.length_append, List.length_singleton]; omega
    simp (disch := omega) only [wk1, wk2, wk3, wk4, wk5, wk6, avalE, aactE, evPE, boundE, asNat, Nat.zero_mul, Int.tdiv_eq_ediv_of_nonneg, Int.tmod_eq_emod_of_nonneg, List.length_append, Nat.mul_one, bv_seql cellsEq_ii, bv_sneqd cellsEq_ii, Bool.not_false, Bool.not_true, decide_eq_true_eq, Bool.not_eq_true, eq_self, ne_eq, and_true, true_and, and_self, not_true_eq_false, not_false_eq_true, if_true, if_false, decide_true, decide_false, Int.toNat_natCast, Int.natCast_nonneg, List.drop_zero, List.take_zero, List.take_succ_cons, List.drop_succ_cons, readC, allOne, Bool.and_self, Bool.and_true, Bool.true_and, fillL, beq_self_eq_true, Nat.one_mul, List.drop_nil, resE, tupled, List.map_nil, List.map_cons, Option.map_some, ↓reduceIte, Nat.reduceEqDiff, Int.reduceEq, Int.reduceLT, Int.reduceLE, Nat.reduceAdd, Nat.reduceMul, Nat.reduceLT, Nat.reduceLeDiff, reduceCtorEq, List.length_nil, List.length_cons, Nat.add_zero, Nat.sub_zero, List.nil_append, List.cons_append, List.getElem?_cons_zero, List.getElem?_cons_succ, List.set_cons_zero, List.set_cons_succ, E4, E5, E6, E7, em, g3, rw1, sh, cn76, runE_none l76]
    have hle0 : ∀ i o, H[i]? = some o → (H ++ [AObj.tok 2])[i]? = some o := fun i o h => by
      rw [List.getElem?_append_left (List.getElem?_eq_some_iff.1 h).1]; exact h
    obtain ⟨o, H2, k0, k1, k2, k3, k4, k5, v2, k6, k7, k8⟩ := does_ic left xs res [] (.own H.length) v (H ++ [.tok 2]) hne (by omega) hne2 hrl (by simp) s6 (hle0 _ _ g0) (hle0 _ _ g2) (hle0 _ _ g3) (ho.kept (g := none) (fun i o hi _ => hle0 i o hi) (.inl rfl)) hv
    rw [k0, k1, runO_ret]
    simp (disch := omega) only [wk1, wk2, wk3, wk4, wk5, wk6, avalE, aactE, evPE, boundE, asNat, Nat.zero_mul, Int.tdiv_eq_ediv_of_nonneg, Int.tmod_eq_emod_of_nonneg, List.length_append, Nat.mul_one, bv_seql cellsEq_ii, bv_sneqd cellsEq_ii, Bool.not_false, Bool.not_true, decide_eq_true_eq, Bool.not_eq_true, eq_self, ne_eq, and_true, true_and, and_self, not_true_eq_false, not_false_eq_true, if_true, if_false, decide_true, decide_false, Int.toNat_natCast, Int.natCast_nonneg, List.drop_zero, List.take_zero, List.take_succ_cons, List.drop_succ_cons, readC, allOne, Bool.and_self, Bool.and_true, Bool.true_and, fillL, beq_self_eq_true, Nat.one_mul, List.drop_nil, resE, tupled, List.map_nil, List.map_cons, Option.map_some, ↓reduceIte, Nat.reduceEqDiff, Int.reduceEq, Int.reduceLT, Int.reduceLE, Nat.reduceAdd, Nat.reduceMul, Nat.reduceLT, Nat.reduceLeDiff, reduceCtorEq, List.length_nil, List.length_cons, Nat.add_zero, Nat.sub_zero, List.nil_append, List.cons_append, List.getElem?_cons_zero, List.getElem?_cons_succ, List.set_cons_zero, List.set_cons_succ]
    rw [List.nil_append] at k7
    refine ih (false, appP xs res, res) _ _ _ (by simp) ⟨by simp only [appP_len], .inl ⟨rfl, s7, s8, rfl⟩, by simp only [upd_app, updD_some, updD_none, ↓reduceIte, Nat.reduceEqDiff, if_true, if_false, List.length_append, List.length_cons, List.length_nil, Nat.zero_add, Nat.add_zero, cast_succ, argE_zero, argE_succ, E4], by simp only [upd_app, updD_some, updD_none, ↓reduceIte, Nat.reduceEqDiff, if_true, if_false, List.length_append, List.length_cons, List.length_nil, Nat.zero_add, Nat.add_zero, cast_succ, argE_zero, argE_succ, E5], by simp only [upd_app, updD_some, updD_none, ↓reduceIte, Nat.reduceEqDiff, if_true, if_false, List.length_append, List.length_cons, List.length_nil, Nat.zero_add, Nat.add_zero, cast_succ, argE_zero, argE_succ, E6], by simp only [upd_app, updD_some, updD_none, ↓reduceIte, Nat.reduceEqDiff, if_true, if_false, List.length_append, List.length_cons, List.length_nil, Nat.zero_add, Nat.add_zero, cast_succ, argE_zero, argE_succ, E7], rfl, k4 _ (hle0 _ _ g1), k2, ?_, v2, k6, k7, k8⟩
    dsimp only
    rw [k3, hle0 _ _ g3, appP_len]
/-- Tidy, at a settled row. -/
theorem slotstidy_settled (left : Int) (M Z : List (Int × Int)) (H : Heap) (hr : right left (2 * (M ++ Z).length)) (hM : okM left M) (hz : zeroL Z) (hne : Z ≠ []) :
    pcx (cbL tab) 37 [.int .u64 left, row (M ++ Z) [] .ro] H = some (.plain (resT ([], 0))) :=
  pcx_N rfl (tidy_pc left (M ++ Z) [] hr (.inl ⟨okL_settled hM hz hne, em_settled hM hz, rfl⟩))
/-- Tidy, at a row with one slot that counts for nothing. -/
theorem slotstidy_dup (left : Int) (A B Z : List (Int × Int)) (k : Int) (H : Heap) (hr : right left (2 * (A ++ (k, lastP left A) :: (B ++ Z)).length)) (hM : okM left (A ++ B)) (hz : zeroL Z) :
    pcx (cbL tab) 37 [.int .u64 left, row (A ++ (k, lastP left A) :: (B ++ Z)) [] .ro] H = some (.plain (resT (shiftM (A ++ (k, lastP left A) :: (B ++ Z)) A.length (A.length + 1 + B.length), 0))) := by
  obtain ⟨_, k', h2⟩ := shift_walk (left := left) A B Z k hz
  refine pcx_N rfl (tidy_pc left _ _ hr (.inr ⟨A.length, A.length + 1 + B.length, em_dup hr.1 hM, raw_dup hr.1 hM hz, by omega, ?_, rfl, ?_, ?_, ?_⟩))
  · simp only [List.length_append, List.length_cons]; omega
  · intro p hp
    rw [shift_at, List.mem_append, List.mem_singleton] at hp
    simp only [List.length_append, List.length_cons]
    rcases hp with hp | rfl
    · have := shF_at A.length B.length (B ++ Z) p hp
      omega
    · simp only [List.length_append]
      omega
  · rw [h2]; exact okL_settled hM (zero_cons hz k') (by simp)
  · rw [h2]; exact em_settled hM (zero_cons hz k')
end Go.Proofs.Ytjlgpfolnhilfaa
