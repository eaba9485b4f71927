/- THE WALK OF A MAP'S TABLE. No condition but those stated. -/
import Derived.Test.YtncmflmjlocgiaaE3
set_option linter.unusedSimpArgs false
set_option linter.unusedVariables false
set_option linter.unusedSectionVars false
namespace Go.Proofs.Ytncmflmjlocgiaa
open Go Go.Am Go.Rec Go.Ino
set_option maxHeartbeats 4000000
set_option maxRecDepth 10000
/-- The devices that were laid, as a map. -/
def ents (ds : List Int) : List (AV × AV) := ds.map fun d => (.int .i64 d, .int .i64 1)
theorem findA_no {d : Int} : ∀ {ds : List Int} {k : Nat}, d ∉ ds → findA 0 (.int .i64 d) (ents ds) k = some none
  | [], _, _ => rfl
  | e :: r, k, h => by
    have h1 : (d == e) = false := by simp; exact fun e2 => h (by simp [e2])
    have h2 : d ∉ r := fun h2 => h (List.mem_cons_of_mem _ h2)
    show (match cellEq 0 (.int .i64 d) (.int .i64 e) with | some true => _ | some false => findA 0 (.int .i64 d) (ents r) (k + 1) | none => none) = _
    simp only [cellEq, if_true, h1]
    exact findA_no h2
theorem findA_yes {d : Int} : ∀ {ds : List Int} {k : Nat}, d ∈ ds → ∃ i, findA 0 (.int .i64 d) (ents ds) k = some (some (i, .int .i64 1))
  | [], _, h => by simp at h
  | e :: r, k, h => by
    show ∃ i, (match cellEq 0 (.int .i64 d) (.int .i64 e) with | some true => some (some (k, AV.int .i64 1)) | some false => findA 0 (.int .i64 d) (ents r) (k + 1) | none => none) = _
    by_cases he : d = e
    · have h1 : (d == e) = true := by simp [he]
      simp only [cellEq, if_true, h1]
      exact ⟨_, rfl⟩
    · have h1 : (d == e) = false := by simp [he]
      simp only [cellEq, if_true, h1]
      exact findA_yes ((List.mem_cons.1 h).resolve_left he)
theorem cellEq_ii (d : Int) : cellEq 0 (.int .i64 d) (.int .i64 d) = some true := by simp [cellEq]
theorem ents_snoc (ds : List Int) (d : Int) : ents ds ++ [(AV.int .i64 d, AV.int .i64 1)] = ents (ds ++ [d]) := by simp [ents]
theorem getI (t : List Int) (i : Nat) (h : i < t.length) : (encs i64A t)[i]? = some (.int .i64 (t.getD i 0)) := by
  have e : t = t.take i ++ t.getD i 0 :: t.drop (i + 1) := by
    rw [List.getD_eq_getElem?_getD, List.getElem?_eq_getElem h, Option.getD_some, ← List.drop_eq_getElem_cons h, List.take_append_drop]
  have hl : (t.take i).length = i := by rw [List.length_take]; omega
  have := getT (t.take i) (t.getD i 0) (t.drop (i + 1))
  rw [← e, hl] at this
  exact this
theorem encs_map1 (t : List Int) : encs i64A t = t.map (AV.int .i64) := by
  induction t with
  | nil => rfl
  | cons x r ih => rw [encs_cons, ih]; rfl
theorem setI (t : List Int) (i : Nat) (v : Int) (h : i < t.length) : List.take i (encs i64A t) ++ [AV.int .i64 v] ++ List.drop (i + 1) (encs i64A t) = encs i64A (t.set i v) := by
  rw [encs_map1, encs_map1, List.map_set, List.append_assoc, List.set_eq_take_append_cons_drop, if_pos (by simpa using h)]
  rfl
theorem z128 : List.replicate 128 (AV.int .i64 0) = encs i64A t0 := by rw [encs_map1, t0, List.map_replicate]
theorem tk128 (t : List Int) (h : Tab t) : List.take 128 (encs i64A t) = encs i64A t := List.take_of_length_le (by rw [lenT, h.len]; exact Nat.le_refl _)
theorem dr128 (t : List Int) (h : Tab t) : List.drop 128 (encs i64A t) = [] := List.drop_of_length_le (by rw [lenT, h.len]; exact Nat.le_refl _)
/-- A table, and whether it is one. -/
def ofR (l : List Ext) : List Int × Bool := match ofM l with
  | some t => (t, true)
  | none => (t0, false)
def tabV (t : List Int) : AV := .agg (encs i64A t)
def ofV (x : List Int × Bool) : AV := .tup [tabV x.1, .bool x.2]
theorem wrongM_layL {l : List Ext} (h : wrongM l = true) (t : List Int) : layL l t = none := by
  cases hl : layL l t with
  | none => rfl
  | some t' =>
    exfalso
    obtain ⟨x, hx, hr⟩ := List.any_eq_true.1 h
    have := layL_right hl x hx
    simp [this] at hr
theorem wrongM_right {l : List Ext} (h : wrongM l = false) : ∀ x ∈ l, rightM x := by
  intro x hx
  apply Classical.byContradiction
  intro hn
  have : wrongM l = true := List.any_eq_true.2 ⟨x, hx, by simp [hn]⟩
  rw [h] at this
  cases this
theorem purify_of (t : List Int) (b : Bool) (H : Heap) : purify (some (.ret (.tup [.agg (encs i64A t), .bool b]), H)) = some (.plain (ofV (t, b))) := by
  have h : (unownT (.tup [.agg (encs i64A t), .bool b])).hf = true := by
    show ((AV.agg (encs i64A t)).hf && _) = true
    simp [AV.hf, hf_i64A, hfL, unown]
  show (if (unownT (.tup [.agg (encs i64A t), .bool b])).hf then some (PR.plain (unownT (.tup [.agg (encs i64A t), .bool b]))) else none) = _
  rw [if_pos h]; rfl
theorem llist : (cbL tab).lent 153 = false := rfl
theorem lendE (H : Heap) (k : Nat) (w : List Ext) : (encs extA w).map (lendK H k) = encs extA w := by
  induction w with
  | nil => rfl
  | cons x r ih => rw [encs_cons, List.map_append, ih, extA, List.map_cons, List.map_cons, List.map_cons, List.map_nil, lendK_int, lendK_int, lendK_int]
theorem RowE.lent {H : Heap} {v : AV} {l : List Ext} (h : RowE H v l) : ∃ s, lendK H 4 v = .sl s l.length (encs extA l ++ []) (if l.isEmpty then .z else .ro) ∧ (l ≠ [] → s = 3) := by
  rcases h with ⟨rfl, rfl⟩ | ⟨hne, id, rfl, hid⟩
  · exact ⟨0, rfl, fun h => absurd rfl h⟩
  · refine ⟨3, ?_, fun _ => rfl⟩
    show (match H[id]? with
      | some (AObj.cells cs) => if l.length * 3 ≤ cs.length then AV.sl 3 l.length ((cs.take (l.length * 3)).map (lendK H 3)) .ro else AV.rsl 3 id l.length
      | _ => AV.rsl 3 id l.length) = _
    rw [hid]
    simp only [lenE, Nat.le_refl, if_true]
    rw [List.take_of_length_le (by rw [lenE]; exact Nat.le_refl _), lendE, List.append_nil]
    have : l.isEmpty = false := by cases l with
      | nil => exact absurd rfl hne
      | cons _ _ => rfl
    rw [this]; rfl
theorem equall_row {H : Heap} {v m : AV} {a b : List Ext} (hr : RowE H v a) (hm : MapR m b) (h1 : a.length ≤ 1000) (h2 : b.length ≤ 1000) :
    pcx (cbL tab) 75 [v, m] H = some (.plain (.bool (decide (a = b)))) := by
  obtain ⟨s, e, z⟩ := hr.lent
  obtain ⟨s2, rest2, tk2, rfl, z2, r2, t2⟩ := hm
  exact equall_v e (lendK_sl ..) h1 h2 z z2 rfl r2 (by split <;> rfl) t2
theorem xof_px (l : List Ext) (m : AV) (hm : MapR m l) (hn : l.length ≤ 1000) (H : Heap) : pcx (cbL tab) 137 [m] H = some (.plain (ofV (ofR l))) := by
  obtain ⟨s, rest, tk, rfl, hz, hr, htk⟩ := hm
  have hm : ∀ u : Tk, u.hf = true → MapR (.sl s l.length (encs extA l ++ rest) u) l := fun u hu => ⟨s, rest, u, rfl, hz, hr, hu⟩
  obtain ⟨u1, e1, f1⟩ := lend_sl s l.length (encs extA l ++ rest) tk
  refine pcx_N rfl (pc_wp (fi := c137) rfl ?_ (by simp [c137]) (by decide) ?_)
  · simp only [pcOn, List.map_cons, List.map_nil, hfL, hf_lend_sl, hf_lend_int, hf_lend_bool, hf_lend_str, hfL_append, Bool.and_self, Bool.and_true, Bool.true_and, c137, hf_extA, hr]
  unfold c137
  rw [List.map_cons, List.map_nil, e1, z128]
  have pu := fun b H => purify_of t0 b H
  have tT := Tab.t0
  have tl := lenT t0
  have tl2 := tT.len
  have tk1 := tk128 t0 tT
  have td1 := dr128 t0 tT
  have one0 := one_i64A t0
  by_cases h10 : 10 < l.length
  · have h10' : (10 : Int) < l.length := by omega
    have e : ofR l = (t0, false) := by
      unfold ofR ofM; rw [if_neg (by omega)]
    simp (disch := omega) only [wk, avalE, aactE, evPE, boundE, asNat, bv_seql cellsEq_ii, bv_sneqd cellsEq_ii, readC, allOne, fillL, resE, tupled, ↓reduceIte, Nat.reduceEqDiff, Int.reduceEq, Int.reduceLT, Int.reduceLE, Nat.reduceAdd, Nat.reduceMul, Nat.reduceLT, Nat.reduceLeDiff, reduceCtorEq, h10']
    rw [ret_scp_goto rfl]
    refine ret_again (by decide) (.inl rfl) ?_
    simp (disch := omega) only [wk, avalE, aactE, evPE, boundE, asNat, bv_seql cellsEq_ii, bv_sneqd cellsEq_ii, readC, allOne, fillL, resE, tupled, ↓reduceIte, Nat.reduceEqDiff, Int.reduceEq, Int.reduceLT, Int.reduceLE, Nat.reduceAdd, Nat.reduceMul, Nat.reduceLT, Nat.reduceLeDiff, reduceCtorEq, tl, tl2, tk1, td1, one0, pu, e, List.append_nil]
  have h10' : ¬ (10 : Int) < l.length := by omega
  have cf := fun H => contf_px l rest s u1 H hn hz hr
  by_cases hw : wrongM l = true
  · have e : ofR l = (t0, false) := by
      unfold ofR ofM; rw [if_pos (by omega), wrongM_layL hw]
    simp (disch := omega) only [wk, avalE, aactE, evPE, boundE, asNat, bv_seql cellsEq_ii, bv_sneqd cellsEq_ii, readC, allOne, fillL, resE, tupled, ↓reduceIte, Nat.reduceEqDiff, Int.reduceEq, Int.reduceLT, Int.reduceLE, Nat.reduceAdd, Nat.reduceMul, Nat.reduceLT, Nat.reduceLeDiff, reduceCtorEq, h10', cf, hw]
    rw [ret_scp_goto rfl]
    refine ret_again (by decide) (.inl rfl) ?_
    simp (disch := omega) only [wk, avalE, aactE, evPE, boundE, asNat, bv_seql cellsEq_ii, bv_sneqd cellsEq_ii, readC, allOne, fillL, resE, tupled, ↓reduceIte, Nat.reduceEqDiff, Int.reduceEq, Int.reduceLT, Int.reduceLE, Nat.reduceAdd, Nat.reduceMul, Nat.reduceLT, Nat.reduceLeDiff, reduceCtorEq, tl, tl2, tk1, td1, one0, pu, e, List.append_nil]
  rw [Bool.not_eq_true] at hw
  have hright := wrongM_right hw
  simp (disch := omega) only [wk, avalE, aactE, evPE, boundE, asNat, bv_seql cellsEq_ii, bv_sneqd cellsEq_ii, readC, allOne, fillL, resE, tupled, ↓reduceIte, Nat.reduceEqDiff, Int.reduceEq, Int.reduceLT, Int.reduceLE, Nat.reduceAdd, Nat.reduceMul, Nat.reduceLT, Nat.reduceLeDiff, reduceCtorEq, h10', cf, hw]
  refine loop_ind (fun (x : List Ext × List Ext × List Int × List Int) E df H1 => l = x.1 ++ x.2.1 ∧ layL l t0 = layL x.2.1 x.2.2.1 ∧ Tab x.2.2.1 ∧ (∀ d : Int, 0 < d → (d ∈ x.2.2.2 ↔ d ∈ x.2.2.1)) ∧ H1[0]? = some (.cells (encs i64A x.2.2.1)) ∧ H1[1]? = some (.map (ents x.2.2.2)) ∧
      E 0 = .sl s l.length (encs extA l ++ rest) u1 ∧ E 2 = .ptr 0 0 ∧ E 4 = .mp 1 ∧ E 16 = .sl s l.length (encs extA l ++ rest) u1 ∧ E 17 = .int .i64 (l.length : Nat) ∧ E 18 = .int .i64 (x.1.length : Nat) ∧ df = [])
    (fun x => x.2.1.length) ([], l, t0, []) (by decide) (.inl rfl) ⟨rfl, rfl, tT, ?_, rfl, rfl, rfl, rfl, rfl, rfl, rfl, rfl, rfl⟩ ?_
  · intro d hd
    simp only [List.not_mem_nil, false_iff]
    intro h
    have := (List.mem_replicate.1 h).2
    omega
  intro ⟨pre, suf, tt, ds⟩ E df H1 ih hP
  obtain ⟨a1, a2, hT, hds, h0, h1, E0, E2, E4, E16, E17, E18, hdf⟩ := hP
  dsimp only at a1 a2 hT hds h0 h1 E18
  subst hdf
  have hl : l.length = pre.length + suf.length := by rw [a1, List.length_append]
  have ttl := lenT tt
  have ttl2 := hT.len
  have tk2 := tk128 tt hT
  have td2 := dr128 tt hT
  have one2 := one_i64A tt
  have sl0 : 0 < H1.length := (List.getElem?_eq_some_iff.1 h0).1
  cases suf with
  | nil =>
    simp only [List.length_nil, Nat.add_zero] at hl
    have lay : layL l t0 = some tt := a2
    obtain ⟨q1, v', H2, q2, q3, q4, q5, q6, q7, q8⟩ := list_ic 0 tt H1 h0 hT
    have eq := equall_row q3 (hm u1 f1) (by omega) hn
    have h02 : H2[0]? = some (.cells (encs i64A tt)) := by rw [q6 0 sl0]; exact h0
    have s20 : 0 < H2.length := by omega
    clear q6 q7
    by_cases hL : listM tt = l
    · have e : ofR l = (tt, true) := by
        unfold ofR ofM; rw [if_pos (by omega), lay]; simp [hL]
      have pu2 := fun b H => purify_of tt b H
      have sg : (H2.set 0 (.cells (encs i64A tt)))[0]? = some (.cells (encs i64A tt)) := List.getElem?_set_self s20
      rw [decide_eq_true hL, hl] at eq
      simp (disch := omega) only [wk, avalE, aactE, evPE, boundE, asNat, bv_seql cellsEq_ii, bv_sneqd cellsEq_ii, readC, allOne, fillL, resE, tupled, ↓reduceIte, Nat.reduceEqDiff, Int.reduceEq, Int.reduceLT, Int.reduceLE, Nat.reduceAdd, Nat.reduceMul, Nat.reduceLT, Nat.reduceLeDiff, reduceCtorEq, E0, E2, E4, E16, E17, E18, hl, q1, q2, runE_none llist, eq, h02, ttl, ttl2, tk2, td2, one2, pu2, e, sg, List.append_nil]
    · have e : ofR l = (t0, false) := by
        unfold ofR ofM; rw [if_pos (by omega), lay]; simp [hL]
      have sg : (H2.set 0 (.cells (encs i64A t0)))[0]? = some (.cells (encs i64A t0)) := List.getElem?_set_self s20
      rw [decide_eq_false hL, hl] at eq
      simp (disch := omega) only [wk, avalE, aactE, evPE, boundE, asNat, bv_seql cellsEq_ii, bv_sneqd cellsEq_ii, readC, allOne, fillL, resE, tupled, ↓reduceIte, Nat.reduceEqDiff, Int.reduceEq, Int.reduceLT, Int.reduceLE, Nat.reduceAdd, Nat.reduceMul, Nat.reduceLT, Nat.reduceLeDiff, reduceCtorEq, E0, E2, E4, E16, E17, E18, hl, q1, q2, runE_none llist, eq, h02, ttl, ttl2, tk2, td2, one2, pu, e, sg, tl, tl2, tk1, td1, one0, List.append_nil]
  | cons x r =>
    simp only [List.length_cons] at hl
    obtain rfl := hz (by rw [a1]; simp)
    have dd := edrop pre x r rest
    rw [← a1] at dd
    have n1 : (pre.length : Int) < (l.length : Int) := by omega
    have hx := hright x (by rw [a1]; simp)
    have nx : ∀ A : AObj, (H1 ++ [A])[H1.length]? = some A := fun A => by simp
    have stx : ∀ A B : AObj, (H1 ++ [A]).set H1.length B = H1 ++ [B] := fun A B => by simp
    simp (disch := omega) only [wk, avalE, aactE, evPE, boundE, asNat, bv_seql cellsEq_ii, bv_sneqd cellsEq_ii, readC, allOne, fillL, resE, tupled, ↓reduceIte, Nat.reduceEqDiff, Int.reduceEq, Int.reduceLT, Int.reduceLE, Nat.reduceAdd, Nat.reduceMul, Nat.reduceLT, Nat.reduceLeDiff, reduceCtorEq, E0, E2, E4, E16, E17, E18, n1, dd, nx, stx]
    have hlt1 : 1 < H1.length := (List.getElem?_eq_some_iff.1 h1).1
    obtain ⟨n, hn'⟩ : ∃ n : Nat, x.2.2 = (n : Int) := ⟨x.2.2.toNat, by have := hx.2.2.1; omega⟩
    have hnt : x.2.2.toNat = n := by omega
    have h0a : (H1 ++ [AObj.cells [AV.int .i64 x.1, .int .i64 x.2.1, .int .i64 x.2.2]])[0]? = some (.cells (encs i64A tt)) := by rw [List.getElem?_append_left (by omega)]; exact h0
    have h1a : (H1 ++ [AObj.cells [AV.int .i64 x.1, .int .i64 x.2.1, .int .i64 x.2.2]])[1]? = some (.map (ents ds)) := by rw [List.getElem?_append_left (by omega)]; exact h1
    have lst : layL (x :: r) tt = match layN n x.1 x.2.1 tt with
      | some t' => layL r t'
      | none => none := by
      show (if rightM x then (match layN x.2.2.toNat x.1 x.2.1 tt with | some t' => layL r t' | none => none) else none) = _
      rw [if_pos hx, hnt]
    generalize hidx : H1.length = idx at hlt1
    clear nx stx
    refine loop_ind (fun (y : Nat × List Int × List Int) E df H2 => y.1 ≤ n ∧ layN n x.1 x.2.1 tt = layN (n - y.1) (x.1 + (y.1 : Nat)) (x.2.1 + (y.1 : Nat)) y.2.1 ∧ Tab y.2.1 ∧ (∀ d : Int, 0 < d → (d ∈ y.2.2 ↔ d ∈ y.2.1)) ∧ H2[0]? = some (.cells (encs i64A y.2.1)) ∧ H2[1]? = some (.map (ents y.2.2)) ∧
        H2[idx]? = some (.cells [AV.int .i64 x.1, .int .i64 x.2.1, .int .i64 x.2.2]) ∧ E 0 = .sl 3 l.length (encs extA l ++ rest) u1 ∧ E 2 = .ptr 0 0 ∧ E 4 = .mp 1 ∧ E 6 = .ptr idx 0 ∧ E 16 = .sl 3 l.length (encs extA l ++ rest) u1 ∧ E 17 = .int .i64 (l.length : Nat) ∧ E 18 = .int .i64 (pre.length : Nat) ∧
        E 23 = .int .i64 (n : Nat) ∧ E 24 = .int .i64 (y.1 : Nat) ∧ df = [])
      (fun y => n - y.1) (0, tt, ds) (by decide) (.inl rfl) ⟨Nat.zero_le _, by simp, hT, hds, h0a, h1a, by rw [← hidx]; simp, by simp only [en, ↓reduceIte, Nat.reduceEqDiff, E0], by simp only [en, ↓reduceIte, Nat.reduceEqDiff, E2], by simp only [en, ↓reduceIte, Nat.reduceEqDiff, E4], by simp only [en, ↓reduceIte, Nat.reduceEqDiff, hidx], by simp only [en, ↓reduceIte, Nat.reduceEqDiff, E16], by simp only [en, ↓reduceIte, Nat.reduceEqDiff, E17], by simp only [en, ↓reduceIte, Nat.reduceEqDiff, E18], by simp only [en, ↓reduceIte, Nat.reduceEqDiff, hn'], by simp only [en, ↓reduceIte, Nat.reduceEqDiff]; rfl, rfl⟩ ?_
    clear h0 h1 h0a h1a E0 E2 E4 E16 E17 E18 hT hds ttl ttl2 tk2 td2 one2 dd
    intro ⟨k, t', ds'⟩ E df H2 ih2 hP
    obtain ⟨hk, hlay, hT, hds, h0, h1, hX, E0, E2, E4, E6, E16, E17, E18, E23, E24, hdf⟩ := hP
    dsimp only at hk hlay hT hds h0 h1 E24
    subst hdf
    have s20 : 0 < H2.length := (List.getElem?_eq_some_iff.1 h0).1
    have s21 : 1 < H2.length := (List.getElem?_eq_some_iff.1 h1).1
    have lt' := lenT t'
    have lt2 := hT.len
    obtain ⟨x1, x2, x3, x4, x5, x6, x7⟩ := hx
    by_cases hkn : k = n
    · subst hkn
      have nk : ¬ (k : Int) < (k : Int) := by omega
      simp (disch := omega) only [wk, avalE, aactE, evPE, boundE, asNat, bv_seql cellsEq_ii, bv_sneqd cellsEq_ii, readC, allOne, fillL, resE, tupled, ↓reduceIte, Nat.reduceEqDiff, Int.reduceEq, Int.reduceLT, Int.reduceLE, Nat.reduceAdd, Nat.reduceMul, Nat.reduceLT, Nat.reduceLeDiff, reduceCtorEq, E0, E2, E4, E6, E16, E17, E18, E23, E24, nk]
      refine ih (pre ++ [x], r, t', ds') _ _ _ (by simp) ?_
      have e : layL (x :: r) tt = layL r t' := by
        rw [lst, hlay, Nat.sub_self]; rfl
      exact ⟨by simp [a1], by rw [a2, e], hT, hds, h0, h1, by simp only [en, ↓reduceIte, Nat.reduceEqDiff, E0], by simp only [en, ↓reduceIte, Nat.reduceEqDiff, E2], by simp only [en, ↓reduceIte, Nat.reduceEqDiff, E4], by simp only [en, ↓reduceIte, Nat.reduceEqDiff, E16], by simp only [en, ↓reduceIte, Nat.reduceEqDiff, E17], by simp only [en, ↓reduceIte, Nat.reduceEqDiff], rfl⟩
    have nk : (k : Int) < (n : Int) := by omega
    obtain ⟨j, hj⟩ : ∃ j : Nat, x.1 + (k : Int) = (j : Int) := ⟨(x.1 + (k : Int)).toNat, by omega⟩
    have hj128 : (j : Int) < 128 := by omega
    have hd0 : 0 < x.2.1 + (k : Int) := by omega
    have hd1 : x.2.1 + (k : Int) < 2048 := by omega
    have gj := getI t' j (by omega)
    have sj := setI t' j (x.2.1 + (k : Int)) (by omega)
    obtain ⟨m, hm1⟩ : ∃ m, n - k = m + 1 := ⟨n - k - 1, by omega⟩
    have hm2 : n - (k + 1) = m := by omega
    rw [hm1, hj] at hlay
    have lu : layN (m + 1) (j : Int) (x.2.1 + (k : Int)) t' = if t'.getD j 0 ≠ 0 ∨ x.2.1 + (k : Int) ∈ t' then none else layN m ((j : Int) + 1) (x.2.1 + (k : Int) + 1) (t'.set j (x.2.1 + (k : Int))) := by
      rw [layN, Int.toNat_natCast]
    rw [lu] at hlay
    have wrong : layN n x.1 x.2.1 tt = none → ofR l = (t0, false) := by
      intro h
      rw [h] at lst
      unfold ofR ofM
      rw [if_pos (by omega), a2, lst]
    have mu : j * 1 = j := Nat.mul_one j
    have sg : (H2.set 0 (.cells (encs i64A t0)))[0]? = some (.cells (encs i64A t0)) := List.getElem?_set_self s20
    by_cases hg : t'.getD j 0 = 0
    case neg =>
      have e := wrong (by rw [hlay, if_pos (.inl hg)])
      simp (disch := omega) only [wk, avalE, aactE, evPE, boundE, asNat, bv_seql cellsEq_ii, bv_sneqd cellsEq_ii, readC, allOne, fillL, resE, tupled, ↓reduceIte, Nat.reduceEqDiff, Int.reduceEq, Int.reduceLT, Int.reduceLE, Nat.reduceAdd, Nat.reduceMul, Nat.reduceLT, Nat.reduceLeDiff, reduceCtorEq, E0, E2, E4, E6, E16, E17, E18, E23, E24, nk, hX, hj, hj128, h0, gj, hg, Nat.zero_add, mu]
      rw [ret_scp_goto rfl]
      refine ret_again (by decide) (.inl rfl) ?_
      simp (disch := omega) only [wk, avalE, aactE, evPE, boundE, asNat, bv_seql cellsEq_ii, bv_sneqd cellsEq_ii, readC, allOne, fillL, resE, tupled, ↓reduceIte, Nat.reduceEqDiff, Int.reduceEq, Int.reduceLT, Int.reduceLE, Nat.reduceAdd, Nat.reduceMul, Nat.reduceLT, Nat.reduceLeDiff, reduceCtorEq, tl, tl2, tk1, td1, one0, pu, e, List.append_nil, h0, lt', lt2, dr128 t' hT, E2, sg]
    by_cases hin : x.2.1 + (k : Int) ∈ t'
    · have e := wrong (by rw [hlay, if_pos (.inr hin)])
      obtain ⟨q, hq⟩ := findA_yes (k := 0) ((hds _ hd0).2 hin)
      simp (disch := omega) only [wk, avalE, aactE, evPE, boundE, asNat, bv_seql cellsEq_ii, bv_sneqd cellsEq_ii, readC, allOne, fillL, resE, tupled, ↓reduceIte, Nat.reduceEqDiff, Int.reduceEq, Int.reduceLT, Int.reduceLE, Nat.reduceAdd, Nat.reduceMul, Nat.reduceLT, Nat.reduceLeDiff, reduceCtorEq, E0, E2, E4, E6, E16, E17, E18, E23, E24, nk, hX, hj, hj128, h0, h1, gj, hg, Nat.zero_add, mu, cellEq_ii, hq]
      rw [ret_scp_goto rfl]
      refine ret_again (by decide) (.inl rfl) ?_
      simp (disch := omega) only [wk, avalE, aactE, evPE, boundE, asNat, bv_seql cellsEq_ii, bv_sneqd cellsEq_ii, readC, allOne, fillL, resE, tupled, ↓reduceIte, Nat.reduceEqDiff, Int.reduceEq, Int.reduceLT, Int.reduceLE, Nat.reduceAdd, Nat.reduceMul, Nat.reduceLT, Nat.reduceLeDiff, reduceCtorEq, tl, tl2, tk1, td1, one0, pu, e, List.append_nil, h0, lt', lt2, dr128 t' hT, E2, sg]
    · have hq := findA_no (k := 0) (fun h => hin ((hds _ hd0).1 h))
      have hlay2 := hlay
      rw [if_neg (by rintro (h | h); exact h hg; exact hin h)] at hlay2
      have h1s : ∀ c, (H2.set 0 (.cells c))[1]? = some (.map (ents ds')) := fun c => by rw [List.getElem?_set_ne (by decide)]; exact h1
      simp (disch := omega) only [wk, avalE, aactE, evPE, boundE, asNat, bv_seql cellsEq_ii, bv_sneqd cellsEq_ii, readC, allOne, fillL, resE, tupled, ↓reduceIte, Nat.reduceEqDiff, Int.reduceEq, Int.reduceLT, Int.reduceLE, Nat.reduceAdd, Nat.reduceMul, Nat.reduceLT, Nat.reduceLeDiff, reduceCtorEq, E0, E2, E4, E6, E16, E17, E18, E23, E24, nk, hX, hj, hj128, h0, h1, gj, hg, Nat.zero_add, mu, cellEq_ii, hq, fv1, sj, lt', lt2, h1s, ents_snoc]
      refine ih2 (k + 1, t'.set j (x.2.1 + (k : Int)), ds' ++ [x.2.1 + (k : Int)]) _ _ _ (by show n - (k + 1) < n - k; omega) ?_
      refine ⟨by show k + 1 ≤ n; omega, ?_, hT.set (by omega) hd1, fun d hd => ?_, ?_, ?_, ?_, by simp only [en, ↓reduceIte, Nat.reduceEqDiff, E0], by simp only [en, ↓reduceIte, Nat.reduceEqDiff, E2], by simp only [en, ↓reduceIte, Nat.reduceEqDiff, E4], by simp only [en, ↓reduceIte, Nat.reduceEqDiff, E6], by simp only [en, ↓reduceIte, Nat.reduceEqDiff, E16], by simp only [en, ↓reduceIte, Nat.reduceEqDiff, E17], by simp only [en, ↓reduceIte, Nat.reduceEqDiff, E18], by simp only [en, ↓reduceIte, Nat.reduceEqDiff, E23], by simp only [en, ↓reduceIte, Nat.reduceEqDiff], rfl⟩
      · have c1 : x.1 + ((k + 1 : Nat) : Int) = (j : Int) + 1 := by omega
        have c2 : x.2.1 + ((k + 1 : Nat) : Int) = x.2.1 + (k : Int) + 1 := by omega
        dsimp only
        rw [c1, c2, hm2]
        exact hlay2
      · show d ∈ ds' ++ [x.2.1 + (k : Int)] ↔ d ∈ t'.set j (x.2.1 + (k : Int))
        have hg2 : t'[j]? = some 0 := by
          rw [List.getD_eq_getElem?_getD] at hg
          have hjl : j < t'.length := by omega
          rw [List.getElem?_eq_getElem hjl] at hg ⊢
          simpa using hg
        rw [List.mem_append, List.mem_singleton, hds d hd]
        constructor
        · rintro (h | h)
          · obtain ⟨q, hq⟩ := List.mem_iff_getElem?.1 h
            have hqj : j ≠ q := by
              rintro rfl
              rw [hg2] at hq
              cases hq
              omega
            exact List.mem_iff_getElem?.2 ⟨q, by rw [List.getElem?_set_ne hqj]; exact hq⟩
          · rw [h]
            exact List.mem_iff_getElem?.2 ⟨j, List.getElem?_set_self (by omega)⟩
        · intro h
          rcases List.mem_or_eq_of_mem_set h with h | h
          · exact .inl h
          · exact .inr h
      · rw [List.getElem?_set_ne (by decide), List.getElem?_set_self s20]
      · exact List.getElem?_set_self (by rw [List.length_set]; exact s21)
      · rw [List.getElem?_set_ne (by omega), List.getElem?_set_ne (by omega)]
        exact hX
end Go.Proofs.Ytncmflmjlocgiaa
