/- THE LAW RecordStores COMES TO true. No condition but those stated. -/
import Derived.Test.YtncmflmjlocgiaaR13
set_option linter.unusedSimpArgs false
set_option linter.unusedVariables false
set_option linter.unusedSectionVars false
namespace Go.Proofs.Ytncmflmjlocgiaa
open Go Go.Am Go.Rec
set_option maxHeartbeats 4000000
set_option maxRecDepth 10000
theorem ok_arr : ∀ (k : Nat) (xs : List AV), OkL (List.replicate k (.int .u64)) xs → ∃ ws : List Int, xs = encs u64A ws ∧ ws.length = k ∧ ∀ x ∈ ws, 0 ≤ x ∧ x < 18446744073709551616
  | 0, xs, h => ⟨[], by have := h.1; simp at this; subst this; rfl, rfl, fun x hx => by simp at hx⟩
  | k + 1, [], h => by have := h.1; simp at this
  | k + 1, v :: r, h => by
    obtain ⟨hl, hi⟩ := h
    have h0 := hi 0 (.int .u64) v (by simp) rfl
    obtain ⟨ws, k1, k2, k3⟩ := ok_arr k r ⟨by simpa using hl, fun i s x hs hx => hi (i + 1) s x (by rw [List.replicate_succ, List.getElem?_cons_succ]; exact hs) (by rw [List.getElem?_cons_succ]; exact hx)⟩
    cases h0 with
    | int _ n b1 b2 =>
      have b1 : 0 ≤ n := b1
      have b2 : n ≤ 18446744073709551615 := b2
      refine ⟨n :: ws, by rw [k1, encs_cons]; rfl, by simp [k2], fun x hx => ?_⟩
      rcases List.mem_cons.1 hx with rfl | hx
      · exact ⟨b1, by omega⟩
      · exact k3 x hx
theorem drop_at {α : Type} {f : α → List AV} {k : Nat} [Even f k] (l : List α) (j : Nat) {x : α} (h : l[j]? = some x) : List.drop (j * k) (encs f l) = f x ++ encs f (l.drop (j + 1)) := by
  rw [encs_drop]
  have hj := (List.getElem?_eq_some_iff.1 h)
  obtain ⟨h1, h2⟩ := hj
  rw [List.drop_eq_getElem_cons h1, h2, encs_cons]
theorem setU (w : List Int) (i : Nat) (v : Int) (h : i < w.length) : List.take i (encs u64A w) ++ [AV.int .u64 v] ++ List.drop (i + 1) (encs u64A w) = encs u64A (w.set i v) := by
  have t := encs_take (f := u64A) w i
  have d := encs_drop (f := u64A) w (i + 1)
  rw [Nat.mul_one] at t d
  rw [t, d, List.set_eq_take_append_cons_drop, if_pos h, encs_append, encs_cons, List.append_assoc]
  rfl
theorem stF_get (at' : Int) : ∀ (l : List Int) (j i : Nat), (stF at' j l)[i]? = l[i]?.map fun x => (at' + 1 + ((j + i : Nat) : Int), x)
  | [], _, _ => by simp [stF]
  | x :: r, j, 0 => by simp [stF]
  | x :: r, j, i + 1 => by
    rw [stF, List.getElem?_cons_succ, List.getElem?_cons_succ, stF_get at' r (j + 1) i]
    have : j + 1 + i = j + (i + 1) := by omega
    rw [this]
/-- The words behind so many stores. -/
def wst (x0 : Int) (tl wt : List Int) (k : Nat) : List Int := if k ≤ 15 then 0 :: (tl.take k ++ wt.drop k) else x0 :: tl
theorem wst_len {x0 : Int} {tl wt : List Int} (h1 : tl.length = 15) (h2 : wt.length = 15) (k : Nat) : (wst x0 tl wt k).length = 16 := by
  unfold wst
  split
  · rw [List.length_cons, List.length_append, List.length_take, List.length_drop]; omega
  · rw [List.length_cons, h1]
theorem wst_step {x0 : Int} {tl wt : List Int} (h1 : tl.length = 15) (h2 : wt.length = 15) (k : Nat) (hk : k < 16) :
    ∃ a v, (stF 7 0 tl ++ [(7, x0)])[k]? = some (a, v) ∧ 7 ≤ a ∧ a ≤ 22 ∧ (wst x0 tl wt k).set (a - 7).toNat v = wst x0 tl wt (k + 1) := by
  by_cases h15 : k = 15
  · subst h15
    refine ⟨7, x0, ?_, by decide, by decide, ?_⟩
    · rw [List.getElem?_append_right (by rw [stF_len]; omega), stF_len, h1]; rfl
    · have e1 : wst x0 tl wt 15 = 0 :: tl := by
        rw [wst, if_pos (Nat.le_refl _), List.take_of_length_le (by omega), List.drop_of_length_le (by omega), List.append_nil]
      have e2 : wst x0 tl wt (15 + 1) = x0 :: tl := rfl
      rw [e1, e2]
      rfl
  · have hk2 : k < tl.length := by omega
    refine ⟨7 + 1 + ((0 + k : Nat) : Int), tl[k], ?_, by omega, by omega, ?_⟩
    · rw [List.getElem?_append_left (by rw [stF_len]; omega), stF_get, List.getElem?_eq_getElem hk2]; rfl
    · have e0 : (7 + 1 + ((0 + k : Nat) : Int) - 7).toNat = k + 1 := by omega
      rw [e0, wst, wst, if_pos (by omega), if_pos (by omega), List.set_cons_succ, List.set_append_right _ _ (by rw [List.length_take]; omega)]
      have e1 : k - (tl.take k).length = 0 := by rw [List.length_take]; omega
      rw [e1, List.drop_eq_getElem_cons (i := k) (by omega), List.set_cons_zero]
      have ht : tl.take (k + 1) = tl.take k ++ [tl[k]] := by rw [List.take_add_one, List.getElem?_eq_getElem hk2]; rfl
      rw [ht, List.append_assoc]
      rfl
theorem wst_not {x0 : Int} {tl wt : List Int} {k : Nat} (hk : k < 16) : ofR (wst x0 tl wt k) = ((0, emptyS), 250) := by
  rw [ofR, if_neg]
  rintro ⟨_, _, h3, _⟩
  have : headM (wst x0 tl wt k) = 0 := by rw [wst, if_pos (by omega)]; rfl
  rw [this] at h3
  have := h3.1
  omega
theorem wst_u64 {x0 : Int} {tl wt : List Int} (h0 : ∀ x ∈ x0 :: tl, 0 ≤ x ∧ x < 18446744073709551616) (h1 : ∀ x ∈ wt, 0 ≤ x ∧ x < 18446744073709551616) (k : Nat) : ∀ x ∈ wst x0 tl wt k, 0 ≤ x ∧ x < 18446744073709551616 := by
  intro x hx
  unfold wst at hx
  split at hx
  · rcases List.mem_cons.1 hx with rfl | hx
    · omega
    · rcases List.mem_append.1 hx with hx | hx
      · exact h0 x (List.mem_cons_of_mem _ (List.mem_of_mem_take hx))
      · exact h1 x (List.mem_of_mem_drop hx)
  · exact h0 x hx
theorem lendU (H : Heap) (k : Nat) (w : List Int) : (encs u64A w).map (lendK H k) = encs u64A w := by
  induction w with
  | nil => rfl
  | cons x r ih => rw [encs_cons, List.map_append, ih, u64A, List.map_cons, List.map_nil, lendK_int]
theorem lend_arr {H : Heap} {w : List Int} (h : H[2]? = some (.cells (encs u64A w))) (hl : w.length = 16) : lendK H 4 (.msl 1 2 0 16) = .sl 1 w.length (encs u64A w ++ []) .ro := by
  show (match H[2]? with
      | some (AObj.cells cs) => if 0 + 16 * 1 ≤ cs.length then AV.sl 1 16 (((cs.drop 0).take (16 * 1)).map (lendK H 3)) .ro else AV.msl 1 2 0 16
      | _ => AV.msl 1 2 0 16) = _
  rw [h]
  simp only
  rw [if_pos (by rw [lenU]; omega), List.drop_zero, List.take_of_length_le (by rw [lenU]; omega), lendU, List.append_nil, hl]
theorem recordStores_pc {xs ys : List AV} (h : OkL [.int .u64, .int .u64, .int .u64, .int .u64, .int .u64, .int .u64, .int .u64, .int .u64, .int .u64, .int .u64, .int .u64, .int .u64, .int .u64, .int .u64, .int .u64, .int .u64] xs) (h' : OkL [.int .i64, .str] ys) :
    (cbL tab).pc 5 [.agg xs, .agg ys] = some (.plain (.bool true)) := by
  obtain ⟨was, rfl, hw16, hwr⟩ := ok_arr 16 xs h
  obtain ⟨n, s, rfl, n1, n2, hs⟩ := okL_rec h'
  have la : lend (.agg (encs u64A was)) = .agg (encs u64A was) := by
    show AV.agg ((encs u64A was).map unown) = _
    have : ∀ l : List Int, (encs u64A l).map unown = encs u64A l := by
      intro l
      induction l with
      | nil => rfl
      | cons x r ih => rw [encs_cons, List.map_append, ih]; rfl
    rw [this]
  have ho1 : allOne (encs u64A was) = true := one_u64A _
  refine pc_wp (fi := c5) rfl ?_ (by simp [c5]) (by decide) ?_
  · simp only [pcOn, c5, List.map_cons, List.map_nil, la, hfL, AV.hf, hf_u64A]; rfl
  unfold c5
  have lr : lend (.agg [.int .i64 n, .str s]) = .agg [.int .i64 n, .str s] := rfl
  rw [List.map_cons, List.map_cons, List.map_nil, la, lr]
  by_cases h3 : 300 < s.size
  · have h3' : (300 : Int) < s.size := by omega
    simp (disch := omega) only [wk1, wk2, wk3, wk4, wk5, wk6, avalE, aactE, evPE, boundE, asNat, Nat.zero_mul, Int.tdiv_eq_ediv_of_nonneg, Int.tmod_eq_emod_of_nonneg, List.length_append, Nat.mul_one, bv_seql cellsEq_ii, bv_sneqd cellsEq_ii, Bool.not_false, Bool.not_true, decide_eq_true_eq, Bool.not_eq_true, eq_self, ne_eq, and_true, true_and, and_self, not_true_eq_false, not_false_eq_true, if_true, if_false, decide_true, decide_false, Int.toNat_natCast, Int.natCast_nonneg, List.drop_zero, List.take_zero, List.take_succ_cons, List.drop_succ_cons, readC, allOne, Bool.and_self, Bool.and_true, Bool.true_and, fillL, beq_self_eq_true, Nat.one_mul, List.drop_nil, resE, tupled, List.map_nil, List.map_cons, Option.map_some, ↓reduceIte, Nat.reduceEqDiff, Int.reduceEq, Int.reduceLT, Int.reduceLE, Nat.reduceAdd, Nat.reduceMul, Nat.reduceLT, Nat.reduceLeDiff, reduceCtorEq, List.length_nil, List.length_cons, Nat.add_zero, Nat.sub_zero, List.nil_append, List.cons_append, List.getElem?_cons_zero, List.getElem?_cons_succ, List.set_cons_zero, List.set_cons_succ, ho1, h3', works_px, purify, unownT, AV.hf]
  have h3' : ¬ (300 : Int) < s.size := by omega
  have w1 := fun H => stores_px 7 n s H (by decide) (by decide)
  have w2 := fun H => rstores_px 7 n s H (by decide) (by decide) (by omega)
  simp only [recV] at w1 w2
  have wR : storesR 7 n s = if recOk n s then (storesM 7 (wordsM n s), 0) else ([], 250) := rfl
  by_cases hk : recOk n s
  case neg =>
    have sv : slvR 2 putA [] = .sl 0 0 [] .z := rfl
    have sm := fun H => pcx_N (H := H) rfl (samePuts_pc [] [] 0 0 .z .z (fun h => absurd rfl h) (fun h => absurd rfl h) (by decide))
    simp only [encs_nil, List.length_nil] at sm
    simp (disch := omega) only [wk1, wk2, wk3, wk4, wk5, wk6, avalE, aactE, evPE, boundE, asNat, Nat.zero_mul, Int.tdiv_eq_ediv_of_nonneg, Int.tmod_eq_emod_of_nonneg, List.length_append, Nat.mul_one, bv_seql cellsEq_ii, bv_sneqd cellsEq_ii, Bool.not_false, Bool.not_true, decide_eq_true_eq, Bool.not_eq_true, eq_self, ne_eq, and_true, true_and, and_self, not_true_eq_false, not_false_eq_true, if_true, if_false, decide_true, decide_false, Int.toNat_natCast, Int.natCast_nonneg, List.drop_zero, List.take_zero, List.take_succ_cons, List.drop_succ_cons, readC, allOne, Bool.and_self, Bool.and_true, Bool.true_and, fillL, beq_self_eq_true, Nat.one_mul, List.drop_nil, resE, tupled, List.map_nil, List.map_cons, Option.map_some, ↓reduceIte, Nat.reduceEqDiff, Int.reduceEq, Int.reduceLT, Int.reduceLE, Nat.reduceAdd, Nat.reduceMul, Nat.reduceLT, Nat.reduceLeDiff, reduceCtorEq, List.length_nil, List.length_cons, Nat.add_zero, Nat.sub_zero, List.nil_append, List.cons_append, List.getElem?_cons_zero, List.getElem?_cons_succ, List.set_cons_zero, List.set_cons_succ, ho1, h3', w1, w2, wR, hk, resP, sv, sm, num_px, works_px, purify, unownT, AV.hf]
  have h16 := wordsM_len (n := n) (nameM_size hk.2.2)
  have hwu := wordsM_u64 hk
  obtain ⟨x0, tl, hx⟩ : ∃ x0 tl, wordsM n s = x0 :: tl := ⟨_, _, wordsM_cons n s⟩
  have ht : tl.length = 15 := by rw [hx] at h16; simpa using h16
  have oW := ofR_words hk
  rw [hx] at wR oW hwu
  obtain ⟨w0, wt, hwe⟩ : ∃ w0 wt, was = w0 :: wt := by
    cases was with
    | nil => simp at hw16
    | cons x r => exact ⟨x, r, rfl⟩
  have hwt : wt.length = 15 := by rw [hwe] at hw16; simpa using hw16
  have hwr2 : ∀ x ∈ wt, 0 ≤ x ∧ x < 18446744073709551616 := fun x hx => hwr x (by rw [hwe]; exact List.mem_cons_of_mem _ hx)
  have hd1 : List.drop 1 (encs u64A was) = encs u64A wt := by rw [hwe]; rfl
  have i0 : (0 : Int).toNat = 0 := rfl
  have h16c : ((16 : Nat) : Int) = 16 := rfl
  obtain ⟨L, hL⟩ : ∃ L, L = stF 7 0 tl ++ [(7, x0)] := ⟨_, rfl⟩
  have sM : storesM 7 (x0 :: tl) = L := by rw [hL]; rfl
  have lL : L.length = 16 := by rw [hL, List.length_append, stF_len, ht]; rfl
  have hne : L ≠ [] := by intro e; rw [e] at lL; cases lL
  have sv : slvR 2 putA L = .sl 2 16 (encs putA L) .ro := by
    unfold slvR
    have : L.isEmpty = false := by
      cases h : L with
      | nil => exact absurd h hne
      | cons _ _ => rfl
    rw [this, lL]; rfl
  have sm := fun H => pcx_N (H := H) rfl (samePuts_pc L L 2 2 .ro .ro (fun _ => rfl) (fun _ => rfl) (by omega))
  simp only [lL] at sm
  have l16 : (encs u64A was).length = 16 := by rw [lenU, hw16]
  have tk16 : List.take 16 (encs u64A was) = encs u64A was := List.take_of_length_le (by omega)
  have i16 : 0 < 16 := by decide
  simp (disch := omega) only [wk1, wk2, wk3, wk4, wk5, wk6, avalE, aactE, evPE, boundE, asNat, Nat.zero_mul, Int.tdiv_eq_ediv_of_nonneg, Int.tmod_eq_emod_of_nonneg, List.length_append, Nat.mul_one, bv_seql cellsEq_ii, bv_sneqd cellsEq_ii, Bool.not_false, Bool.not_true, decide_eq_true_eq, Bool.not_eq_true, eq_self, ne_eq, and_true, true_and, and_self, not_true_eq_false, not_false_eq_true, if_true, if_false, decide_true, decide_false, Int.toNat_natCast, Int.natCast_nonneg, List.drop_zero, List.take_zero, List.take_succ_cons, List.drop_succ_cons, readC, allOne, Bool.and_self, Bool.and_true, Bool.true_and, fillL, beq_self_eq_true, Nat.one_mul, List.drop_nil, resE, tupled, List.map_nil, List.map_cons, Option.map_some, ↓reduceIte, Nat.reduceEqDiff, Int.reduceEq, Int.reduceLT, Int.reduceLE, Nat.reduceAdd, Nat.reduceMul, Nat.reduceLT, Nat.reduceLeDiff, reduceCtorEq, List.length_nil, List.length_cons, Nat.add_zero, Nat.sub_zero, List.nil_append, List.cons_append, List.getElem?_cons_zero, List.getElem?_cons_succ, List.set_cons_zero, List.set_cons_succ, ho1, h3', w1, w2, wR, hk, resP, sM, sv, sm, num_px, works_px, l16, tk16, hd1, i0, Nat.le_refl, List.append_nil, i16]
  refine loop_ind (fun (k : Nat) E df H => k ≤ 16 ∧ E 3 = .ptr 1 0 ∧ E 5 = .sl 2 16 (encs putA L) .ro ∧ E 9 = .ptr 2 0 ∧ E 10 = .int .i64 (k : Nat) ∧ df = [] ∧ H[1]? = some (.cells [.int .i64 n, .str s]) ∧ H[2]? = some (.cells (encs u64A (wst x0 tl wt k))))
    (fun k => 16 - k) 0 (by decide) (.inl rfl) ⟨by omega, rfl, rfl, rfl, rfl, rfl, rfl, by rfl⟩ ?_
  intro k E df H ih hP
  obtain ⟨hk16, E3, E5, E9, E10, hdf, hH1, hH2⟩ := hP
  subst hdf
  have wl := wst_len (x0 := x0) (tl := tl) (wt := wt) ht hwt k
  have oo := rof_px (wst x0 tl wt k) [] 1 .ro H (.msl 1 2 0 16) (lend_arr hH2 wl) (by omega) (fun _ => rfl) rfl rfl (wst_u64 hwu hwr2 k)
  have g1 : ∀ o : AObj, (H ++ [o])[H.length]? = some o := fun o => by simp
  have g2 : 2 < H.length := (List.getElem?_eq_some_iff.1 hH2).1
  have g4 : ∀ o o' : AObj, (H ++ [o]).set H.length o' = H ++ [o'] := fun o o' => by simp
  have g5 : ∀ o : AObj, (H ++ [o])[2]? = H[2]? := fun o => List.getElem?_append_left g2
  have g6 : ∀ o : AObj, (H ++ [o])[1]? = H[1]? := fun o => List.getElem?_append_left (by omega)
  by_cases hk2 : k = 16
  · subst hk2
    have e16 : wst x0 tl wt 16 = x0 :: tl := rfl
    rw [e16, oW] at oo
    simp only [resO, recV] at oo
    simp (disch := omega) only [wk1, wk2, wk3, wk4, wk5, wk6, avalE, aactE, evPE, boundE, asNat, Nat.zero_mul, Int.tdiv_eq_ediv_of_nonneg, Int.tmod_eq_emod_of_nonneg, List.length_append, Nat.mul_one, bv_seql cellsEq_ii, bv_sneqd cellsEq_ii, Bool.not_false, Bool.not_true, decide_eq_true_eq, Bool.not_eq_true, eq_self, ne_eq, and_true, true_and, and_self, not_true_eq_false, not_false_eq_true, if_true, if_false, decide_true, decide_false, Int.toNat_natCast, Int.natCast_nonneg, List.drop_zero, List.take_zero, List.take_succ_cons, List.drop_succ_cons, readC, allOne, Bool.and_self, Bool.and_true, Bool.true_and, fillL, beq_self_eq_true, Nat.one_mul, List.drop_nil, resE, tupled, List.map_nil, List.map_cons, Option.map_some, ↓reduceIte, Nat.reduceEqDiff, Int.reduceEq, Int.reduceLT, Int.reduceLE, Nat.reduceAdd, Nat.reduceMul, Nat.reduceLT, Nat.reduceLeDiff, reduceCtorEq, List.length_nil, List.length_cons, Nat.add_zero, Nat.sub_zero, List.nil_append, List.cons_append, List.getElem?_cons_zero, List.getElem?_cons_succ, List.set_cons_zero, List.set_cons_succ, E3, E5, E9, E10, h16c, oo, i0, i16, num_px, g1, g4, g6, hH1, works_px, bv_seql ceq_rec, purify, unownT, AV.hf]
  · have hlt : k < 16 := by omega
    have hlt' : (k : Int) < 16 := by omega
    obtain ⟨a, v, k1, k2, k3, k4⟩ := wst_step (x0 := x0) ht hwt k hlt
    rw [← hL] at k1
    rw [wst_not hlt] at oo
    simp only [resO, recV] at oo
    have dk := drop_at (f := putA) L k k1
    simp only [putA, List.cons_append, List.nil_append] at dk
    have nk1 : ¬ a < 7 := by omega
    have nk2 : ¬ 22 < a := by omega
    have ai : (a - 7).toNat < 16 := by omega
    have am : 0 ≤ a - 7 ∧ a - 7 < 16 := by omega
    have su := setU (wst x0 tl wt k) (a - 7).toNat v (by rw [wl]; exact ai)
    rw [k4] at su
    have lw : (encs u64A (wst x0 tl wt k)).length = 16 := by rw [lenU, wl]
    have al : (a - 7).toNat + 1 ≤ 16 := by omega
    simp (disch := omega) only [wk1, wk2, wk3, wk4, wk5, wk6, avalE, aactE, evPE, boundE, asNat, Nat.zero_mul, Int.tdiv_eq_ediv_of_nonneg, Int.tmod_eq_emod_of_nonneg, List.length_append, Nat.mul_one, bv_seql cellsEq_ii, bv_sneqd cellsEq_ii, Bool.not_false, Bool.not_true, decide_eq_true_eq, Bool.not_eq_true, eq_self, ne_eq, and_true, true_and, and_self, not_true_eq_false, not_false_eq_true, if_true, if_false, decide_true, decide_false, Int.toNat_natCast, Int.natCast_nonneg, List.drop_zero, List.take_zero, List.take_succ_cons, List.drop_succ_cons, readC, allOne, Bool.and_self, Bool.and_true, Bool.true_and, fillL, beq_self_eq_true, Nat.one_mul, List.drop_nil, resE, tupled, List.map_nil, List.map_cons, Option.map_some, ↓reduceIte, Nat.reduceEqDiff, Int.reduceEq, Int.reduceLT, Int.reduceLE, Nat.reduceAdd, Nat.reduceMul, Nat.reduceLT, Nat.reduceLeDiff, reduceCtorEq, List.length_nil, List.length_cons, Nat.add_zero, Nat.sub_zero, List.nil_append, List.cons_append, List.getElem?_cons_zero, List.getElem?_cons_succ, List.set_cons_zero, List.set_cons_succ, E3, E5, E9, E10, h16c, hlt', oo, i0, i16, num_px, g1, g4, g5, g6, hH1, hH2, dk, nk1, nk2, am, Nat.zero_add, su, lw, al, List.append_nil]
    refine ih (k + 1) _ _ _ (by omega) ?_
    exact ⟨by omega, by simp only [upd_app, updD_some, updD_none, ↓reduceIte, Nat.reduceEqDiff, if_true, if_false, List.length_append, List.length_cons, List.length_nil, Nat.zero_add, Nat.add_zero, cast_succ, argE_zero, argE_succ, E3], by simp only [upd_app, updD_some, updD_none, ↓reduceIte, Nat.reduceEqDiff, if_true, if_false, List.length_append, List.length_cons, List.length_nil, Nat.zero_add, Nat.add_zero, cast_succ, argE_zero, argE_succ, E5], by simp only [upd_app, updD_some, updD_none, ↓reduceIte, Nat.reduceEqDiff, if_true, if_false, List.length_append, List.length_cons, List.length_nil, Nat.zero_add, Nat.add_zero, cast_succ, argE_zero, argE_succ, E9], by simp only [upd_app, updD_some, updD_none, ↓reduceIte, Nat.reduceEqDiff, if_true, if_false, List.length_append, List.length_cons, List.length_nil, Nat.zero_add, Nat.add_zero, cast_succ, argE_zero, argE_succ], rfl, (set_ne (by omega)).trans ((g6 _).trans hH1), set_eq ((g5 _).trans hH2)⟩
end Go.Proofs.Ytncmflmjlocgiaa
