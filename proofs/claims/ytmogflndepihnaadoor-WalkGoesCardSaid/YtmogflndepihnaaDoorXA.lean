/- THE DOCUMENT'S WALKER: done. No condition but those stated. -/
import Derived.Test.YtmogflndepihnaaDoorW9
import Derived.Test.YtmogflndepihnaaDoorK6
set_option linter.unusedSimpArgs false
set_option linter.unusedVariables false
set_option linter.unusedSectionVars false
namespace Go.Proofs.YtmogflndepihnaaDoor
open Go Go.Am Go.Nam Go.Wlk Go.Rec
set_option maxHeartbeats 4000000
set_option maxRecDepth 10000
/-- The document's walker, as cells. -/
def rcells (w : Wk) (pv : AV) : List AV := [.int .i64 w.at_, pv, .int .i64 w.links, .bool w.follow, .bool w.fin.isSome] ++ w.endA.cells
theorem rdone_px (w : Wk) (s : Nat) (tk : Tk) (x : Wd) (H : Heap) :
    pcx (cbL tab) 76 [.agg (rcells w (.sl s w.parts.length (encs strA w.parts) tk)), .agg x.cells] H = some (.plain (.agg (rcells (endM w x) (.sl 0 0 [] .z)))) := by
  obtain ⟨u1, e1, f1⟩ : ∃ u1, unown (.sl s w.parts.length (encs strA w.parts) tk) = .sl s w.parts.length (encs strA w.parts) u1 ∧ u1.hf = true := by
    cases tk with
    | own g => exact ⟨.ro, rfl, rfl⟩
    | _ => exact ⟨_, rfl, rfl⟩
  have el : lend (.agg (rcells w (.sl s w.parts.length (encs strA w.parts) tk))) = .agg (rcells w (.sl s w.parts.length (encs strA w.parts) u1)) := by
    have hm : ∀ v, (rcells w v).map unown = rcells w (unown v) := fun v => rfl
    show AV.agg ((rcells w _).map unown) = _
    rw [hm, e1]
  have el2 : lend (.agg x.cells) = .agg x.cells := rfl
  refine pcx_N rfl (pc_wp (fi := c76) rfl ?_ (by simp [c76]) (by decide) ?_)
  · show hfL [lend _, lend _] = true
    rw [el, el2]
    simp [rcells, Wd.cells, hfL, AV.hf, hf_strA, f1]
  unfold c76
  rw [List.map_cons, List.map_cons, List.map_nil, el, el2]
  unfold rcells Wd.cells
  have fv : floatV [.ptr 1 0] [.ptr 0 4] = true := rfl
  simp (disch := omega) only [wk, avalE, aactE, evPE, boundE, asNat, bv_seql cellsEq_ii, bv_sneqd cellsEq_ii, readC, allOne, fillL, resE, tupled, ↓reduceIte, Nat.reduceEqDiff, Int.reduceEq, Int.reduceLT, Int.reduceLE, Nat.reduceAdd, Nat.reduceMul, Nat.reduceLT, Nat.reduceLeDiff, reduceCtorEq, fv, endM, kemp, purify, unownT, unown, AV.hf, hfL, Tk.hf]
  try rfl
theorem rlend (w : Wk) (s : Nat) (tk : Tk) : ∃ u1, lend (.agg (rcells w (.sl s w.parts.length (encs strA w.parts) tk))) = .agg (rcells w (.sl s w.parts.length (encs strA w.parts) u1)) ∧ u1.hf = true := by
  have hm : ∀ v, (rcells w v).map unown = rcells w (unown v) := fun v => rfl
  cases tk with
  | own g => exact ⟨.ro, rfl, rfl⟩
  | ro => exact ⟨.ro, rfl, rfl⟩
  | z => exact ⟨.z, rfl, rfl⟩
  | e => exact ⟨.e, rfl, rfl⟩
/-- The document's walker, handed back. -/
def RW (w : Wk) (r : Option PR) : Prop := ∃ s tk, (w.parts ≠ [] → s = 1) ∧ tk.hf = true ∧ r = some (.plain (.agg (rcells w (.sl s w.parts.length (encs strA w.parts) tk))))
theorem pc_wpE {tab : FuncId → Option AFun} {f : FuncId} {fi : AFun} {args : List AV} {R : PR → Prop} (ht : tab f = some fi) (hon : pcOn fi args = true) (hl : args.length ≤ fi.np) (hf : fi.body.fits fi.np = true)
    (h : Ret (cbL tab) none fi.np (Go.Am.Ends tab fi.res fun o H => ∃ r, purify (some (o, H)) = some r ∧ R r) [.code fi.body] .normal (argE (args.map lend)) [] []) (hcon : fi.con = none := by rfl) : ∃ r, (cbL tab).pc f args = some r ∧ R r := by
  rw [← EV_fr0 fi.np] at h
  obtain ⟨o, H', h1, r, h2, h3⟩ := body_wp (by rw [List.length_map]; exact hl) hf h
  refine ⟨r, ?_, h3⟩
  apply pc_of
  rw [pcA, ht]
  simp only [hcon]
  simp only [hon, if_true]
  rw [h1, h2]
theorem onM_cons {at_ links : Int} {fol : Bool} {x : List UInt8} {r : List (List UInt8)} : onM ⟨at_, x :: r, links, fol, none⟩ = if dot x = true then onM ⟨at_, r, links, fol, none⟩ else ⟨at_, x :: r, links, fol, none⟩ := by
  by_cases h : dot x = true
  · rw [if_pos h]
    unfold onM
    simp only [List.dropWhile_cons, h, if_true]
    rfl
  · rw [if_neg h]
    unfold onM
    simp only [List.dropWhile_cons, h, Bool.false_eq_true, if_false]
theorem ron_px {at_ links : Int} {fol : Bool} (l : List (List UInt8)) (hl : l.length ≤ 10000) (s : Nat) (hs : l ≠ [] → s = 1) (tk0 : Tk) (htn0 : l ≠ [] → tk0 = .ro ∨ ∃ g, tk0 = .own g) :
    ∃ s' tk', ((onM ⟨at_, l, links, fol, none⟩).parts ≠ [] → s' = 1) ∧ tk'.hf = true ∧ ((onM ⟨at_, l, links, fol, none⟩).parts ≠ [] → tk' = .ro) ∧
      ∀ H, pcx (cbL tab) 74 [.agg (rcells ⟨at_, l, links, fol, none⟩ (.sl s l.length (encs strA l) tk0))] H = some (.plain (.agg (rcells (onM ⟨at_, l, links, fol, none⟩) (.sl s' (onM ⟨at_, l, links, fol, none⟩).parts.length (encs strA (onM ⟨at_, l, links, fol, none⟩).parts) tk')))) := by
  obtain ⟨tk, el, ht, htn⟩ : ∃ tk, lend (.agg (rcells ⟨at_, l, links, fol, none⟩ (.sl s l.length (encs strA l) tk0))) = .agg (rcells ⟨at_, l, links, fol, none⟩ (.sl s l.length (encs strA l) tk)) ∧ tk.hf = true ∧ (l ≠ [] → tk = .ro) := by
    cases tk0 with
    | own g => exact ⟨.ro, rfl, rfl, fun _ => rfl⟩
    | ro => exact ⟨.ro, rfl, rfl, fun _ => rfl⟩
    | z => exact ⟨.z, rfl, rfl, fun h => by rcases htn0 h with h | ⟨g, h⟩ <;> cases h⟩
    | e => exact ⟨.e, rfl, rfl, fun h => by rcases htn0 h with h | ⟨g, h⟩ <;> cases h⟩
  have key : ∃ r, (cbL tab).pc 74 [.agg (rcells ⟨at_, l, links, fol, none⟩ (.sl s l.length (encs strA l) tk0))] = some r ∧
      ∃ s' tk', ((onM ⟨at_, l, links, fol, none⟩).parts ≠ [] → s' = 1) ∧ tk'.hf = true ∧ ((onM ⟨at_, l, links, fol, none⟩).parts ≠ [] → tk' = .ro) ∧ r = .plain (.agg (rcells (onM ⟨at_, l, links, fol, none⟩) (.sl s' (onM ⟨at_, l, links, fol, none⟩).parts.length (encs strA (onM ⟨at_, l, links, fol, none⟩).parts) tk'))) := by
    refine pc_wpE (fi := c74) rfl ?_ (by simp [c74]) (by decide) ?_
    · show hfL [lend _] = true
      rw [el]
      simp [rcells, Wk.endA, Wd.cells, hfL, AV.hf, hf_strA, ht]
    unfold c74
    rw [List.map_cons, List.map_nil, el]
    unfold rcells Wd.cells
    simp (disch := omega) only [wk, avalE, aactE, evPE, boundE, asNat, bv_seql cellsEq_ii, bv_sneqd cellsEq_ii, readC, allOne, fillL, resE, tupled, ↓reduceIte, Nat.reduceEqDiff, Int.reduceEq, Int.reduceLT, Int.reduceLE, Nat.reduceAdd, Nat.reduceMul, Nat.reduceLT, Nat.reduceLeDiff, reduceCtorEq, Wk.endA, zeroW, Option.getD_none, Option.isSome_none]
    refine loop_ind (fun (y : List (List UInt8) × Nat × Tk) E df H => y.1.length ≤ 10000 ∧ (y.1 ≠ [] → y.2.1 = 1) ∧ y.2.2.hf = true ∧ (y.1 ≠ [] → y.2.2 = .ro) ∧ onM ⟨at_, l, links, fol, none⟩ = onM ⟨at_, y.1, links, fol, none⟩ ∧ E 1 = .ptr 0 0 ∧ E 2 = .ptr 1 0 ∧ df = [] ∧
        H = [.cells [.int .i64 at_, .sl y.2.1 y.1.length (encs strA y.1) y.2.2, .int .i64 links, .bool fol, .bool false, .int .i64 0, .int .i64 0, .str (bs []), .int .i64 0, .int .i64 0], .cells [.int .i64 0, .sl 0 0 [] .z, .int .i64 0, .bool false, .bool false, .int .i64 0, .int .i64 0, .str (bs []), .int .i64 0, .int .i64 0]])
      (fun y => y.1.length) (l, s, tk) (by decide) (.inl rfl) ⟨hl, hs, ht, htn, rfl, rfl, rfl, rfl, rfl⟩ ?_
    intro ⟨l', s', tk'⟩ E df H ih hP
    obtain ⟨b1, b2, b3, b4, b5, E1, E2, hdf, hH⟩ := hP
    dsimp only at b1 b2 b3 b4 b5 hH
    subst hdf hH
    rw [b5]
    cases l' with
    | nil =>
      have rd := fun H => rdone_px ⟨at_, [], links, fol, none⟩ s' tk' ⟨0, 0, [], at_, 2⟩ H
      unfold rcells Wd.cells at rd
      simp only [Wk.endA, zeroW, Option.getD_none, Option.isSome_none, List.cons_append, List.nil_append, List.length_nil, encs_nil] at rd
      simp (disch := omega) only [wk, avalE, aactE, evPE, boundE, asNat, bv_seql cellsEq_ii, bv_sneqd cellsEq_ii, readC, allOne, fillL, resE, tupled, ↓reduceIte, Nat.reduceEqDiff, Int.reduceEq, Int.reduceLT, Int.reduceLE, Nat.reduceAdd, Nat.reduceMul, Nat.reduceLT, Nat.reduceLeDiff, reduceCtorEq, E1, E2, rd, kemp, purify, unownT, unown, AV.hf, hfL, Tk.hf]
      exact ⟨_, rfl, 0, .z, fun h => absurd rfl h, rfl, fun h => absurd rfl h, rfl⟩
    | cons x r =>
      obtain rfl := b2 (by simp)
      obtain rfl := b4 (by simp)
      have e1 : encs strA (x :: r) = .str (bs x) :: encs strA r := rfl
      simp only [List.length_cons] at b1
      cases hd : dot x with
      | true =>
        have hx : (x == [46]) = true := hd
        simp (disch := omega) only [wk, avalE, aactE, evPE, boundE, asNat, bv_seql cellsEq_ii, bv_sneqd cellsEq_ii, readC, allOne, fillL, resE, tupled, ↓reduceIte, Nat.reduceEqDiff, Int.reduceEq, Int.reduceLT, Int.reduceLE, Nat.reduceAdd, Nat.reduceMul, Nat.reduceLT, Nat.reduceLeDiff, reduceCtorEq, E1, E2, e1, kdot, kemp, bv_streq, bs_toList, hx, Int.toNat_zero, i1, lenS, Nat.le_refl, Nat.add_sub_cancel]
        have hor : onM ⟨at_, x :: r, links, fol, none⟩ = onM ⟨at_, r, links, fol, none⟩ := by rw [onM_cons, if_pos hd]
        rw [← b5]
        refine ih (r, 1, .ro) _ _ _ (by simp) ?_
        refine ⟨by dsimp only; omega, fun _ => rfl, rfl, fun _ => rfl, b5.trans hor, ?_, ?_, rfl, rfl⟩
        · simp only [en, ↓reduceIte, Nat.reduceEqDiff, E1]
        · simp only [en, ↓reduceIte, Nat.reduceEqDiff, E2]
      | false =>
        have hx : (x == [46]) = false := hd
        have ho : onM ⟨at_, x :: r, links, fol, none⟩ = ⟨at_, x :: r, links, fol, none⟩ := by rw [onM_cons, if_neg (by rw [hd]; decide)]
        rw [ho]
        simp (disch := omega) only [wk, avalE, aactE, evPE, boundE, asNat, bv_seql cellsEq_ii, bv_sneqd cellsEq_ii, readC, allOne, fillL, resE, tupled, ↓reduceIte, Nat.reduceEqDiff, Int.reduceEq, Int.reduceLT, Int.reduceLE, Nat.reduceAdd, Nat.reduceMul, Nat.reduceLT, Nat.reduceLeDiff, reduceCtorEq, E1, E2, e1, kdot, kemp, bv_streq, bs_toList, hx, Int.toNat_zero, purify, unownT, unown, AV.hf, hfL, hf_strA]
        exact ⟨_, rfl, 1, .ro, fun _ => rfl, rfl, fun _ => rfl, rfl⟩
  obtain ⟨r, h1, s', tk', h2, h3, h4, rfl⟩ := key
  exact ⟨s', tk', h2, h3, h4, fun H => pcx_N rfl h1⟩
theorem rnew_px {path : List UInt8} {fol : Bool} (hl : path.length ≤ 5000) (hp : partsE path = 0) :
    ∃ s' tk', ((newM path fol).parts ≠ [] → s' = 1) ∧ tk'.hf = true ∧ ((newM path fol).parts ≠ [] → tk' = .ro) ∧
      ∀ H, pcx (cbL tab) 45 [.str (bs path), .bool fol] H = some (.plain (.tup [.agg (rcells (newM path fol) (.sl s' (newM path fol).parts.length (encs strA (newM path fol).parts) tk')), .int .i64 0])) := by
  have rp := fun H => rparts_px path hl H
  have bp := partsM_small path
  have hpm : partsM path = cutP path := if_pos hp
  unfold rpartsV at rp
  rw [hpm] at rp bp
  obtain ⟨s2, t2, m1, m2, m3, m4⟩ : ∃ s2 t2, slvR 1 strA (cutP path) = .sl s2 (cutP path).length (encs strA (cutP path)) t2 ∧ (cutP path ≠ [] → s2 = 1) ∧ t2.hf = true ∧ (cutP path ≠ [] → t2 = .ro) := by
    unfold slvR
    cases h : cutP path with
    | nil => exact ⟨0, .z, rfl, fun h => absurd rfl h, rfl, fun h => absurd rfl h⟩
    | cons x r => exact ⟨1, .ro, rfl, fun _ => rfl, rfl, fun _ => rfl⟩
  rw [m1] at rp
  obtain ⟨s', tk', k1, k2, k3, k4⟩ := ron_px (at_ := 1) (links := 0) (fol := fol) (cutP path) (by omega) s2 m2 t2 (fun h => .inl (m4 h))
  refine ⟨s', tk', k1, k2, k3, fun H => ?_⟩
  refine pcx_N rfl (pc_wp (fi := c45) rfl rfl (by simp [c45]) (by decide) ?_)
  unfold c45
  rw [List.map_cons, List.map_cons, List.map_nil, lend_str, lend_bool]
  have hn : newM path fol = onM ⟨1, cutP path, 0, fol, none⟩ := rfl
  rw [hn]
  generalize onM ⟨1, cutP path, 0, fol, none⟩ = w at *
  unfold rcells Wd.cells at k4
  simp only [Wk.endA, zeroW, Option.getD_none, Option.isSome_none, List.cons_append, List.nil_append] at k4
  unfold rcells Wd.cells Wk.endA
  simp (disch := omega) only [wk, avalE, aactE, evPE, boundE, asNat, bv_seql cellsEq_ii, bv_sneqd cellsEq_ii, readC, allOne, fillL, resE, tupled, ↓reduceIte, Nat.reduceEqDiff, Int.reduceEq, Int.reduceLT, Int.reduceLE, Nat.reduceAdd, Nat.reduceMul, Nat.reduceLT, Nat.reduceLeDiff, reduceCtorEq, rp, hp, kemp, k4, purify, unownT, unown, AV.hf, hfL, hf_strA, k2, zeroW]
theorem rnew_no {path : List UInt8} {fol : Bool} (hl : path.length ≤ 5000) (hp : partsE path ≠ 0) (H : Heap) :
    pcx (cbL tab) 45 [.str (bs path), .bool fol] H = some (.plain (.tup [.agg [.int .i64 0, .sl 0 0 [] .z, .int .i64 0, .bool false, .bool false, .int .i64 0, .int .i64 0, .str (bs []), .int .i64 0, .int .i64 0], .int .i64 (partsE path)])) := by
  have rp := fun H => rparts_px path hl H
  unfold rpartsV at rp
  obtain ⟨s2, t2, m1, m2, m3⟩ := slvR_form 1 strA (partsM path)
  rw [m1] at rp
  refine pcx_N rfl (pc_wp (fi := c45) rfl rfl (by simp [c45]) (by decide) ?_)
  unfold c45
  rw [List.map_cons, List.map_cons, List.map_nil, lend_str, lend_bool]
  simp (disch := omega) only [wk, avalE, aactE, evPE, boundE, asNat, bv_seql cellsEq_ii, bv_sneqd cellsEq_ii, readC, allOne, fillL, resE, tupled, ↓reduceIte, Nat.reduceEqDiff, Int.reduceEq, Int.reduceLT, Int.reduceLE, Nat.reduceAdd, Nat.reduceMul, Nat.reduceLT, Nat.reduceLeDiff, reduceCtorEq, rp, hp, kemp, purify, unownT, unown, AV.hf, hfL, Tk.hf]
theorem rmiss_px {at_ links : Int} {fol : Bool} (l : List (List UInt8)) (hl : l.length ≤ 10000) (s : Nat) (hs : l ≠ [] → s = 1) (tk : Tk) (ht : tk.hf = true) (H : Heap) :
    pcx (cbL tab) 48 [.agg (rcells ⟨at_, l, links, fol, none⟩ (.sl s l.length (encs strA l) tk))] H = some (.plain (.agg (rcells (missM ⟨at_, l, links, fol, none⟩) (.sl 0 0 [] .z)))) := by
  have el : lend (.agg (rcells ⟨at_, l, links, fol, none⟩ (.sl s l.length (encs strA l) tk))) = .agg (rcells ⟨at_, l, links, fol, none⟩ (.sl s l.length (encs strA l) tk)) := by
    have hm : ∀ v, (rcells ⟨at_, l, links, fol, none⟩ v).map unown = rcells ⟨at_, l, links, fol, none⟩ (unown v) := fun v => rfl
    show AV.agg ((rcells _ _).map unown) = _
    rw [hm]
    cases tk <;> first | rfl | cases ht
  refine pcx_N rfl (pc_wp (fi := c48) rfl ?_ (by simp [c48]) (by decide) ?_)
  · show hfL [lend _] = true
    rw [el]
    simp [rcells, Wk.endA, Wd.cells, hfL, AV.hf, hf_strA, ht]
  unfold c48
  rw [List.map_cons, List.map_nil, el]
  by_cases hl1 : l.length = 1
  · obtain ⟨p, rfl⟩ : ∃ p, l = [p] := by
      cases l with
      | nil => simp at hl1
      | cons p r => cases r with
        | nil => exact ⟨p, rfl⟩
        | cons q r => simp at hl1
    obtain rfl := hs (by simp)
    have rd := fun H => rdone_px ⟨at_, [p], links, fol, none⟩ 1 tk ⟨270, at_, p, 0, 0⟩ H
    have e1 : encs strA [p] = [.str (bs p)] := rfl
    have fv : ∀ cs, floatV [.ptr 0 1, .eptr cs] [.ptr 2 1] = true := fun cs => rfl
    unfold rcells Wd.cells Wk.endA at rd
    simp only [zeroW, Option.getD_none, Option.isSome_none, List.cons_append, List.nil_append, List.length_cons, List.length_nil, Nat.zero_add, e1] at rd
    unfold rcells Wd.cells
    simp (disch := omega) only [wk, avalE, aactE, evPE, boundE, asNat, bv_seql cellsEq_ii, bv_sneqd cellsEq_ii, readC, allOne, fillL, resE, tupled, ↓reduceIte, Nat.reduceEqDiff, Int.reduceEq, Int.reduceLT, Int.reduceLE, Nat.reduceAdd, Nat.reduceMul, Nat.reduceLT, Nat.reduceLeDiff, reduceCtorEq, Wk.endA, zeroW, Option.getD_none, Option.isSome_none, e1, fv, kemp, rd, missM, endM, Int.toNat_zero, purify, unownT, unown, AV.hf, hfL, Tk.hf]
    try rfl
  · have n1 : ¬ (l.length : Int) = 1 := by omega
    have hm : missM ⟨at_, l, links, fol, none⟩ = endM ⟨at_, l, links, fol, none⟩ ⟨270, 0, [], 0, 0⟩ := by
      unfold missM
      dsimp only
      split
      · rename_i q h; simp at hl1
      · rfl
    rw [hm]
    have rd := fun H => rdone_px ⟨at_, l, links, fol, none⟩ s tk ⟨270, 0, [], 0, 0⟩ H
    unfold rcells Wd.cells Wk.endA at rd
    simp only [zeroW, Option.getD_none, Option.isSome_none, List.cons_append, List.nil_append] at rd
    unfold rcells Wd.cells
    simp (disch := omega) only [wk, avalE, aactE, evPE, boundE, asNat, bv_seql cellsEq_ii, bv_sneqd cellsEq_ii, readC, allOne, fillL, resE, tupled, ↓reduceIte, Nat.reduceEqDiff, Int.reduceEq, Int.reduceLT, Int.reduceLE, Nat.reduceAdd, Nat.reduceMul, Nat.reduceLT, Nat.reduceLeDiff, reduceCtorEq, Wk.endA, zeroW, Option.getD_none, Option.isSome_none, kemp, rd, endM, n1, purify, unownT, unown, AV.hf, hfL, Tk.hf]
    try rfl
section
variable {cb : CB} {rd : Option Nat} {n : Nat} {Q : KP} {ks : List Kt} {E : Env} {df : List ADf} {H : Heap}
/-- An append of a row that may be empty. -/
theorem runX_app0 {sz bytes s : Nat} {x : AV} {m : Nat} {ds : List AV} {tk : Tk} {n0 : Nat} {cs : List AV} {d : Option Nat} {rest : List AOper} (ho : Own H sz x n0 cs) (hz : 0 < sz) (hb : (n0 + m) * bytes ≤ 70368744177664) (hb2 : n0 + m ≤ 70368744177664)
    (hs : m ≠ 0 → s = sz) (hl : ds.length = m * sz) (h1 : allOne ds = true)
    (k : ∀ v H', Own H' sz v (n0 + m) (cs ++ ds) → Kept (tokOf x) H H' → RR cb rd n Q rest ks (updD E d v) df H') :
    RunX (appV sz bytes x (.sl s m ds tk) H) d rest cb rd n Q ks E df := by
  by_cases hm : m = 0
  · subst hm
    obtain rfl : ds = [] := List.eq_nil_of_length_eq_zero (by rw [hl, Nat.zero_mul])
    have key : appV sz bytes x (.sl s 0 [] tk) H = some (.val x, H) := by
      rcases ho with ⟨rfl | rfl, rfl, rfl⟩ | ⟨h0, g, rfl, hg⟩ <;> simp [appV, hz, hb, hb2]
      all_goals (try omega)
      exact ⟨hb, hb2⟩
    rw [key, runX_val]
    refine k x H ?_ (fun id o h _ => h)
    rw [Nat.add_zero, List.append_nil]
    exact ho
  · obtain rfl := hs hm
    exact runX_app ho hz hb hb2 hm hl h1 (fun H' a b c => k _ _ a b)
end
theorem own_form {H : Heap} {sz : Nat} {v : AV} {n : Nat} {cs : List AV} (ho : Own H sz v n cs) : ∃ s tk, v = .sl s n cs tk ∧ (n ≠ 0 → s = sz) ∧ (n ≠ 0 → tk = .ro ∨ ∃ g, tk = .own g) := by
  rcases ho with ⟨h | h, hn, hc⟩ | ⟨hn, g, h, _⟩
  · exact ⟨_, _, h, fun h => absurd hn h, fun h => absurd hn h⟩
  · exact ⟨_, _, h, fun h => rfl, fun h => absurd hn h⟩
  · exact ⟨_, _, h, fun _ => rfl, fun _ => .inr ⟨g, rfl⟩⟩
theorem kept2 {H H' : Heap} {v : AV} {n sz : Nat} {cs : List AV} (ho : Own H sz v n cs) (k : Kept (tokOf v) H H') {i : Nat} {c : List AV} (h : H[i]? = some (.cells c)) : H'[i]? = some (.cells c) := k.cells ho rfl h (fun s e => by cases e)
/-- The document's walker, handed back by a call. -/
def RWp (w : Wk) (r : PR) : Prop := ∃ s tk, (w.parts ≠ [] → s = 1) ∧ tk.hf = true ∧ (w.parts ≠ [] → tk = .ro) ∧ r = .plain (.agg (rcells w (.sl s w.parts.length (encs strA w.parts) tk)))
theorem slvR_form2 (l : List (List UInt8)) : ∃ s tk, slvR 1 strA l = .sl s l.length (encs strA l) tk ∧ (l ≠ [] → s = 1) ∧ tk.hf = true ∧ (l ≠ [] → tk = .ro) := by
  unfold slvR
  cases l with
  | nil => exact ⟨0, .z, rfl, fun h => absurd rfl h, rfl, fun h => absurd rfl h⟩
  | cons x r => exact ⟨1, .ro, rfl, fun _ => rfl, rfl, fun _ => rfl⟩
def lkTl : ACode := (.seq (.region [⟨(.some 30), (.mv (.t 5)), .none⟩, ⟨(.some 31), (.callf 19 [(.t 30)]), .none⟩, ⟨(.some 29), (.mv (.t 31)), .none⟩, ⟨(.some 32), (.ext (.t 29) 0), .none⟩, ⟨(.some 33), (.ext (.t 29) 1), .none⟩, ⟨(.some 6), (.mv (.t 32)), .none⟩, ⟨(.some 7), (.mv (.t 33)), .none⟩]) (.seq (.seq (.region [⟨(.some 34), (.mv (.t 7)), .none⟩, ⟨(.some 35), (.bin .neq .num (.t 34) (.c (.int .i64 0))), .none⟩]) (.cond (.t 35) (.seq (.region [⟨(.some 36), (.load 10 true (.t 2)), .none⟩, ⟨(.some 37), (.mv (.t 7)), .none⟩, ⟨(.some 38), (.build [(.int .i64 0), (.int .i64 0), (.str (ByteArray.mk (Array.mk []))), (.int .i64 0), (.int .i64 0)] [(0, (1, (.t 37)))]), .none⟩, ⟨(.some 39), (.callf 76 [(.t 36), (.t 38)]), .none⟩, ⟨.none, (.store 10 (.t 4) (.t 39)), .none⟩]) .ret) .skip)) (.seq (.drawn [⟨(.some 40), (.bslice 1 0 [] []), .none⟩, ⟨(.some 41), (.mv (.t 6)), .none⟩, ⟨(.some 43), (.fld 1 (.t 2)), .none⟩, ⟨(.some 44), (.load 1 false (.t 43)), .none⟩] [⟨.none, (.chk [(.t 43)] []), .none⟩, ⟨(.some 42), (.append 1 16 (.t 40) (.t 41)), .none⟩, ⟨(.some 45), (.append 1 16 (.t 42) (.t 44)), .none⟩, ⟨(.some 46), (.fld 1 (.t 2)), .none⟩, ⟨.none, (.store 1 (.t 46) (.t 45)), .none⟩]) (.seq (.region [⟨(.some 47), (.load 10 true (.t 2)), .none⟩, ⟨(.some 48), (.callf 74 [(.t 47)]), .none⟩, ⟨.none, (.store 10 (.t 4) (.t 48)), .none⟩]) .ret))))
theorem link_tail {at_ links : Int} {fol : Bool} (l : List (List UInt8)) (hl : l.length ≤ 6000) (s : Nat) (hs : l ≠ [] → s = 1) (tk : Tk) (htn : l ≠ [] → tk = .ro) {E : Env} (E2 : E 2 = .ptr 0 0) (E4 : E 4 = .ptr 1 0) (p : List UInt8) (hp : p.length ≤ 5000) (E5 : E 5 = .str (bs p)) (Z : List AV) (hZ : Z.length = 10) :
    Ret (cbL tab) none 49 (Am.Ends tab [(.cell 4 10 true)] fun o H => ∃ r, purify (some (o, H)) = some r ∧ RWp (if partsE p = 0 then onM ⟨at_, cutP p ++ l, links, fol, none⟩ else endM ⟨at_, l, links, fol, none⟩ ⟨partsE p, 0, [], 0, 0⟩) r) [.code lkTl] .normal E [] [.cells [.int .i64 at_, .sl s l.length (encs strA l) tk, .int .i64 links, .bool fol, .bool false, .int .i64 0, .int .i64 0, .str (bs []), .int .i64 0, .int .i64 0], .cells Z] := by
  match Z, hZ with
  | [y0, y1, y2, y3, y4, y5, y6, y7, y8, y9], _ =>
  have rp := fun H => rparts_px p hp H
  have bp := partsM_small p
  unfold rpartsV at rp
  unfold lkTl
  by_cases ep : partsE p = 0
  case neg =>
    rw [if_neg ep]
    obtain ⟨s2, t2, m1, m2, m3, m4⟩ := slvR_form2 (partsM p)
    rw [m1] at rp
    have rd := fun H => rdone_px ⟨at_, l, links, fol, none⟩ s tk ⟨partsE p, 0, [], 0, 0⟩ H
    unfold rcells Wd.cells Wk.endA at rd
    simp only [zeroW, Option.getD_none, Option.isSome_none, List.cons_append, List.nil_append] at rd
    simp (disch := omega) only [wk, avalE, aactE, evPE, boundE, asNat, bv_seql cellsEq_ii, bv_sneqd cellsEq_ii, readC, allOne, fillL, resE, tupled, ↓reduceIte, Nat.reduceEqDiff, Int.reduceEq, Int.reduceLT, Int.reduceLE, Nat.reduceAdd, Nat.reduceMul, Nat.reduceLT, Nat.reduceLeDiff, reduceCtorEq, E2, E4, E5, rp, ep, rd, kemp, endM, purify, unownT, unown, AV.hf, hfL, Tk.hf]
    exact ⟨_, rfl, 0, .z, fun h => absurd rfl h, rfl, fun h => absurd rfl h, rfl⟩
  rw [if_pos ep]
  have hpm : partsM p = cutP p := if_pos ep
  rw [hpm, ep] at rp
  rw [hpm] at bp
  obtain ⟨s2, t2, m1, m2, m3, m4⟩ := slvR_form2 (cutP p)
  rw [m1] at rp
  generalize hA : cutP p = A at *
  have own0 : Own ([.cells [.int .i64 at_, .sl s l.length (encs strA l) tk, .int .i64 links, .bool fol, .bool false, .int .i64 0, .int .i64 0, .str (bs []), .int .i64 0, .int .i64 0], .cells [y0, y1, y2, y3, y4, y5, y6, y7, y8, y9]] : Heap) 1 (.sl 1 0 [] .e) 0 [] := .inl ⟨.inr rfl, rfl, rfl⟩
  have fv : floatV [.ptr 0 1] [] = true := rfl
  simp (disch := omega) only [wk, avalE, aactE, evPE, boundE, asNat, bv_seql cellsEq_ii, bv_sneqd cellsEq_ii, readC, allOne, fillL, resE, tupled, ↓reduceIte, Nat.reduceEqDiff, Int.reduceEq, Int.reduceLT, Int.reduceLE, Nat.reduceAdd, Nat.reduceMul, Nat.reduceLT, Nat.reduceLeDiff, reduceCtorEq, E2, E4, E5, rp, fv]
  refine runX_app0 own0 (by omega) (by omega) (by omega) (fun h => m2 (fun e => h (by rw [e]; rfl))) (by rw [lenS]; omega) (one_strA _) (fun v1 H1 q1 q2 => ?_)
  simp only [Nat.zero_add, List.nil_append] at q1
  have a0 := kept2 own0 q2 (i := 0) rfl
  have a1 := kept2 own0 q2 (i := 1) rfl
  simp (disch := omega) only [wk, avalE, aactE, evPE, boundE, asNat, bv_seql cellsEq_ii, bv_sneqd cellsEq_ii, readC, allOne, fillL, resE, tupled, ↓reduceIte, Nat.reduceEqDiff, Int.reduceEq, Int.reduceLT, Int.reduceLE, Nat.reduceAdd, Nat.reduceMul, Nat.reduceLT, Nat.reduceLeDiff, reduceCtorEq, E2, E4, E5, a0, a1]
  refine runX_app0 q1 (by omega) (by omega) (by omega) (fun h => hs (fun e => h (by rw [e]; rfl))) (by rw [lenS]; omega) (one_strA _) (fun v2 H2 r1 r2 => ?_)
  have b0 := kept2 q1 r2 a0
  have b1 := kept2 q1 r2 a1
  obtain ⟨s3, t3, rfl, h3, h4⟩ := own_form r1
  have c0 : ∀ o, (H2.set 0 o)[0]? = some o := fun o => set_eq b0
  have c1 : ∀ o, (H2.set 0 o)[1]? = _ := fun o => (set_ne (by omega)).trans b1
  have c2 : ∀ o o', ((H2.set 0 o).set 1 o')[1]? = some o' := fun o o' => set_eq (c1 o)
  have ee : encs strA A ++ encs strA l = encs strA (A ++ l) := (encs_append _ _ _).symm
  have el : A.length + l.length = (A ++ l).length := (List.length_append ..).symm
  rw [ee, el] at *
  have hne : A ++ l ≠ [] → A.length + l.length ≠ 0 := fun h e => h (List.eq_nil_of_length_eq_zero (by rw [List.length_append]; exact e))
  obtain ⟨s', tk', k1, k2, k3, k4⟩ := ron_px (at_ := at_) (links := links) (fol := fol) (A ++ l) (by rw [List.length_append]; omega) s3 (fun h => h3 (hne h)) t3 (fun h => h4 (hne h))
  generalize A ++ l = B at *
  generalize hw : onM ⟨at_, B, links, fol, none⟩ = w at *
  unfold rcells Wd.cells at k4
  simp only [Wk.endA, zeroW, Option.getD_none, Option.isSome_none, List.cons_append, List.nil_append] at k4
  simp (disch := omega) only [wk, avalE, aactE, evPE, boundE, asNat, bv_seql cellsEq_ii, bv_sneqd cellsEq_ii, readC, allOne, fillL, resE, tupled, ↓reduceIte, Nat.reduceEqDiff, Int.reduceEq, Int.reduceLT, Int.reduceLE, Nat.reduceAdd, Nat.reduceMul, Nat.reduceLT, Nat.reduceLeDiff, reduceCtorEq, E2, E4, E5, b0, b1, c0, c1, c2, k4, purify, unownT, unown, AV.hf, hfL, hf_strA, k2]
  exact ⟨_, rfl, s', tk', k1, k2, k3, rfl⟩
theorem rlendA {at_ links : Int} {fol : Bool} (l : List (List UInt8)) (s : Nat) (tk : Tk) (ht : tk.hf = true) : lend (.agg (rcells ⟨at_, l, links, fol, none⟩ (.sl s l.length (encs strA l) tk))) = .agg (rcells ⟨at_, l, links, fol, none⟩ (.sl s l.length (encs strA l) tk)) := by
  have hm : ∀ v, (rcells ⟨at_, l, links, fol, none⟩ v).map unown = rcells ⟨at_, l, links, fol, none⟩ (unown v) := fun v => rfl
  show AV.agg ((rcells _ _).map unown) = _
  rw [hm]
  cases tk <;> first | rfl | cases ht
theorem rlink_pc {at_ links : Int} {fol : Bool} (l : List (List UInt8)) (hl : l.length ≤ 6000) (s : Nat) (hs : l ≠ [] → s = 1) (tk : Tk) (ht : tk.hf = true) (htn : l ≠ [] → tk = .ro) (hk : 0 ≤ links ∧ links ≤ 100) (t : List UInt8) (htl : t.length ≤ 4000) :
    ∃ r, (cbL tab).pc 77 [.agg (rcells ⟨at_, l, links, fol, none⟩ (.sl s l.length (encs strA l) tk)), .str (bs t)] = some r ∧ RWp (linkM ⟨at_, l, links, fol, none⟩ t) r := by
  have el := rlendA (at_ := at_) (links := links) (fol := fol) l s tk ht
  refine pc_wpE (fi := c77) rfl ?_ (by simp [c77]) (by decide) ?_
  · show hfL [lend _, lend _] = true
    rw [el]
    simp [rcells, Wk.endA, Wd.cells, hfL, AV.hf, hf_strA, ht, lend_str]
  show Ret (cbL tab) none 49 (Am.Ends tab [(.cell 4 10 true)] _) [.code (.seq _ (.seq _ (.seq _ (.seq _ lkTl))))] .normal (argE (List.map lend [.agg (rcells _ _), .str (bs t)])) [] []
  rw [List.map_cons, List.map_cons, List.map_nil, el, lend_str]
  unfold rcells Wd.cells
  unfold linkM
  by_cases h8 : 8 < links + 1
  · rw [if_pos h8]
    have rd := fun H => rdone_px ⟨at_, l, links + 1, fol, none⟩ s tk ⟨272, 0, [], 0, 0⟩ H
    unfold rcells Wd.cells Wk.endA at rd
    simp only [zeroW, Option.getD_none, Option.isSome_none, List.cons_append, List.nil_append] at rd
    simp (disch := omega) only [wk, avalE, aactE, evPE, boundE, asNat, bv_seql cellsEq_ii, bv_sneqd cellsEq_ii, readC, allOne, fillL, resE, tupled, ↓reduceIte, Nat.reduceEqDiff, Int.reduceEq, Int.reduceLT, Int.reduceLE, Nat.reduceAdd, Nat.reduceMul, Nat.reduceLT, Nat.reduceLeDiff, reduceCtorEq, Wk.endA, zeroW, Option.getD_none, Option.isSome_none, h8, rd, kemp, endM, purify, unownT, unown, AV.hf, hfL, Tk.hf]
    exact ⟨_, rfl, 0, .z, fun h => absurd rfl h, rfl, fun h => absurd rfl h, rfl⟩
  rw [if_neg h8]
  have k47 : ByteArray.mk (Array.mk [UInt8.ofNat 47]) = bs [47] := rfl
  by_cases h47 : t.head? = some 47
  · have sl : slashed t = t := if_pos h47
    rw [sl]
    simp only [if_pos h47]
    obtain ⟨r, rfl⟩ : ∃ r, t = 47 :: r := by
      cases t with
      | nil => cases h47
      | cons c r => cases h47; exact ⟨r, rfl⟩
    have x1 : ((47 :: r : List UInt8) == []) = false := rfl
    have x2 : (bs (47 :: r))[Int.toNat 0]? = some 47 := by rw [bs_get]; rfl
    have x3 : ((47 : UInt8).toNat : Int) = 47 := rfl
    simp (disch := omega) only [wk, avalE, aactE, evPE, boundE, asNat, bv_seql cellsEq_ii, bv_sneqd cellsEq_ii, readC, allOne, fillL, resE, tupled, ↓reduceIte, Nat.reduceEqDiff, Int.reduceEq, Int.reduceLT, Int.reduceLE, Nat.reduceAdd, Nat.reduceMul, Nat.reduceLT, Nat.reduceLeDiff, reduceCtorEq, Wk.endA, zeroW, Option.getD_none, Option.isSome_none, h8, kemp, bv_streq, bs_toList, x1, x2, x3]
    exact link_tail l hl s hs tk htn (by simp only [en, ↓reduceIte, Nat.reduceEqDiff]) (by simp only [en, ↓reduceIte, Nat.reduceEqDiff]) (47 :: r) (by omega) (by simp only [en, ↓reduceIte, Nat.reduceEqDiff]) _ rfl
  · have sl : slashed t = 47 :: t := if_neg h47
    rw [sl]
    simp only [if_neg h47]
    have sa : ∀ {xo yo : X}, binV .add .str xo yo (.str (bs [47])) (.str (bs t)) = some (.str (bs (47 :: t))) := stradd htl
    cases t with
    | nil =>
      have x1 : (([] : List UInt8) == []) = true := rfl
      simp (disch := omega) only [wk, avalE, aactE, evPE, boundE, asNat, bv_seql cellsEq_ii, bv_sneqd cellsEq_ii, readC, allOne, fillL, resE, tupled, ↓reduceIte, Nat.reduceEqDiff, Int.reduceEq, Int.reduceLT, Int.reduceLE, Nat.reduceAdd, Nat.reduceMul, Nat.reduceLT, Nat.reduceLeDiff, reduceCtorEq, Wk.endA, zeroW, Option.getD_none, Option.isSome_none, h8, kemp, k47, bv_streq, bs_toList, x1, sa]
      exact link_tail l hl s hs tk htn (by simp only [en, ↓reduceIte, Nat.reduceEqDiff]) (by simp only [en, ↓reduceIte, Nat.reduceEqDiff]) [47] (by simp) (by simp only [en, ↓reduceIte, Nat.reduceEqDiff]) _ rfl
    | cons c r =>
      have hc : c ≠ 47 := fun e => h47 (by rw [e]; rfl)
      have x1 : ((c :: r : List UInt8) == []) = false := rfl
      have x2 : (bs (c :: r))[Int.toNat 0]? = some c := by rw [bs_get]; rfl
      have x3 : ¬ (c.toNat : Int) = 47 := fun e => hc (by apply UInt8.toNat_inj.1; show c.toNat = 47; omega)
      simp (disch := omega) only [wk, avalE, aactE, evPE, boundE, asNat, bv_seql cellsEq_ii, bv_sneqd cellsEq_ii, readC, allOne, fillL, resE, tupled, ↓reduceIte, Nat.reduceEqDiff, Int.reduceEq, Int.reduceLT, Int.reduceLE, Nat.reduceAdd, Nat.reduceMul, Nat.reduceLT, Nat.reduceLeDiff, reduceCtorEq, Wk.endA, zeroW, Option.getD_none, Option.isSome_none, h8, kemp, k47, bv_streq, bs_toList, x1, x2, x3, sa]
      exact link_tail l hl s hs tk htn (by simp only [en, ↓reduceIte, Nat.reduceEqDiff]) (by simp only [en, ↓reduceIte, Nat.reduceEqDiff]) (47 :: c :: r) (by simp only [List.length_cons] at htl ⊢; omega) (by simp only [en, ↓reduceIte, Nat.reduceEqDiff]) _ rfl
theorem runG_un {cb : CB} {rd : Option Nat} {n : Nat} {Q : KP} {ks : List Kt} {E : Env} {df : List ADf} {H : Heap} {b : Bool} {d : Option Nat} {op : AOp} {rest : List AOper} : RunG (.tup []) b d op rest cb rd n Q ks E df H = RR cb rd n Q rest ks (updD E d (.tup [])) df H := rfl
theorem rgive_pc {at_ links : Int} {fol : Bool} (p : List UInt8) (r : List (List UInt8)) (hl : r.length ≤ 6000) (hk : 0 ≤ links ∧ links ≤ 100) (f : Fnd) (htl : f.target.length ≤ 4000) :
    ∃ q, (cbL tab).pc 49 [.agg (rcells ⟨at_, p :: r, links, fol, none⟩ (.sl 1 (p :: r).length (encs strA (p :: r)) .ro)), .agg f.cells] = some q ∧ RWp (giveM ⟨at_, p :: r, links, fol, none⟩ f) q := by
  obtain ⟨fi, fk, t⟩ := f
  dsimp only at htl
  have el := rlendA (at_ := at_) (links := links) (fol := fol) (p :: r) 1 .ro rfl
  have el2 : lend (.agg (Fnd.cells ⟨fi, fk, t⟩)) = .agg (Fnd.cells ⟨fi, fk, t⟩) := rfl
  refine pc_wpE (fi := c49) rfl ?_ (by simp [c49]) (by decide) ?_
  · show hfL [lend _, lend _] = true
    rw [el, el2]
    simp [rcells, Wk.endA, Wd.cells, Fnd.cells, hfL, AV.hf, hf_strA, Tk.hf]
  unfold c49
  rw [List.map_cons, List.map_cons, List.map_nil, el, el2]
  have e1 : encs strA (p :: r) = .str (bs p) :: encs strA r := rfl
  obtain ⟨s', tk', k1, k2, k3, k4⟩ := ron_px (at_ := fi) (links := links) (fol := fol) r (by omega) 1 (fun _ => rfl) .ro (fun _ => .inl rfl)
  obtain ⟨q, j1, s2, t2, j2, j3, j4, rfl⟩ := rlink_pc (at_ := at_) (links := links) (fol := fol) r hl 1 (fun _ => rfl) .ro rfl (fun _ => rfl) hk t htl
  have j5 := fun H => pcx_N (H := H) (cb := cbL tab) (f := 77) rfl j1
  have rd := fun H x => rdone_px ⟨at_, r, links, fol, none⟩ 1 .ro x H
  have em : ∀ x, endM ⟨at_, p :: r, links, fol, none⟩ x = endM ⟨at_, r, links, fol, none⟩ x := fun x => rfl
  unfold giveM
  dsimp only
  generalize hon : onM ⟨fi, r, links, fol, none⟩ = wo at *
  generalize hlk : linkM ⟨at_, r, links, fol, none⟩ t = wl at *
  have rd1 := fun H => rd H ⟨0, at_, p, fi, fk⟩
  have rd2 := fun H => rd H ⟨271, 0, [], 0, 0⟩
  clear rd j1
  rw [em, em]
  unfold rcells Wd.cells at k4 j5 rd1 rd2 ⊢
  unfold Fnd.cells
  simp only [Wk.endA, zeroW, Option.getD_none, Option.isSome_none, List.cons_append, List.nil_append, List.length_cons, e1] at k4 j5 rd1 rd2 ⊢
  by_cases hp : p = [46, 46]
  · have hx : (p == [46, 46]) = true := by rw [hp]; rfl
    rw [if_pos hp]
    simp (disch := omega) only [wk, avalE, aactE, evPE, boundE, asNat, bv_seql cellsEq_ii, bv_sneqd cellsEq_ii, readC, allOne, fillL, resE, tupled, ↓reduceIte, Nat.reduceEqDiff, Int.reduceEq, Int.reduceLT, Int.reduceLE, Nat.reduceAdd, Nat.reduceMul, Nat.reduceLT, Nat.reduceLeDiff, reduceCtorEq, runG_un, kdd, kemp, bv_streq, bs_toList, hx, k4, k2, Int.toNat_zero, i1, lenS, Nat.le_refl, Nat.add_sub_cancel, purify, unownT, unown, AV.hf, hfL, hf_strA]
    exact ⟨_, rfl, s', tk', k1, k2, k3, rfl⟩
  have hx : (p == [46, 46]) = false := by simpa using hp
  rw [if_neg hp]
  by_cases hr : r = []
  · rw [if_pos hr]
    have n1 : ¬ 0 < (r.length : Int) := by rw [hr]; simp
    by_cases f3 : fk = 3
    · cases fol with
      | true =>
        rw [if_pos ⟨f3, rfl⟩]
        simp (disch := omega) only [wk, avalE, aactE, evPE, boundE, asNat, bv_seql cellsEq_ii, bv_sneqd cellsEq_ii, readC, allOne, fillL, resE, tupled, ↓reduceIte, Nat.reduceEqDiff, Int.reduceEq, Int.reduceLT, Int.reduceLE, Nat.reduceAdd, Nat.reduceMul, Nat.reduceLT, Nat.reduceLeDiff, reduceCtorEq, runG_un, kdd, kemp, bv_streq, bs_toList, hx, n1, j5, j3, Int.toNat_zero, i1, lenS, Nat.le_refl, Nat.add_sub_cancel, purify, unownT, unown, AV.hf, hfL, hf_strA]
        exact ⟨_, rfl, s2, t2, j2, j3, j4, rfl⟩
      | false =>
        rw [if_neg (by rintro ⟨_, h⟩; cases h)]
        simp (disch := omega) only [wk, avalE, aactE, evPE, boundE, asNat, bv_seql cellsEq_ii, bv_sneqd cellsEq_ii, readC, allOne, fillL, resE, tupled, ↓reduceIte, Nat.reduceEqDiff, Int.reduceEq, Int.reduceLT, Int.reduceLE, Nat.reduceAdd, Nat.reduceMul, Nat.reduceLT, Nat.reduceLeDiff, reduceCtorEq, runG_un, kdd, kemp, bv_streq, bs_toList, hx, n1, rd1, Int.toNat_zero, i1, lenS, Nat.le_refl, Nat.add_sub_cancel, Bool.false_eq_true, purify, unownT, unown, AV.hf, hfL, hf_strA, Tk.hf]
        exact ⟨_, rfl, 0, .z, fun h => absurd rfl h, rfl, fun h => absurd rfl h, rfl⟩
    · rw [if_neg (fun h => f3 h.1)]
      by_cases f2 : fk = 2
      · simp (disch := omega) only [wk, avalE, aactE, evPE, boundE, asNat, bv_seql cellsEq_ii, bv_sneqd cellsEq_ii, readC, allOne, fillL, resE, tupled, ↓reduceIte, Nat.reduceEqDiff, Int.reduceEq, Int.reduceLT, Int.reduceLE, Nat.reduceAdd, Nat.reduceMul, Nat.reduceLT, Nat.reduceLeDiff, reduceCtorEq, runG_un, kdd, kemp, bv_streq, bs_toList, hx, n1, rd1, Int.toNat_zero, i1, lenS, Nat.le_refl, Nat.add_sub_cancel, purify, unownT, unown, AV.hf, hfL, hf_strA, Tk.hf]
        exact ⟨_, rfl, 0, .z, fun h => absurd rfl h, rfl, fun h => absurd rfl h, rfl⟩
      · simp (disch := omega) only [wk, avalE, aactE, evPE, boundE, asNat, bv_seql cellsEq_ii, bv_sneqd cellsEq_ii, readC, allOne, fillL, resE, tupled, ↓reduceIte, Nat.reduceEqDiff, Int.reduceEq, Int.reduceLT, Int.reduceLE, Nat.reduceAdd, Nat.reduceMul, Nat.reduceLT, Nat.reduceLeDiff, reduceCtorEq, runG_un, kdd, kemp, bv_streq, bs_toList, hx, n1, rd1, Int.toNat_zero, i1, lenS, Nat.le_refl, Nat.add_sub_cancel, purify, unownT, unown, AV.hf, hfL, hf_strA, Tk.hf]
        exact ⟨_, rfl, 0, .z, fun h => absurd rfl h, rfl, fun h => absurd rfl h, rfl⟩
  rw [if_neg hr]
  have n0 : r.length ≠ 0 := fun e => hr (List.eq_nil_of_length_eq_zero e)
  have n1 : 0 < (r.length : Int) := by omega
  by_cases f2 : fk = 2
  · rw [if_pos f2]
    have f3 : ¬ fk = 3 := by omega
    simp (disch := omega) only [wk, avalE, aactE, evPE, boundE, asNat, bv_seql cellsEq_ii, bv_sneqd cellsEq_ii, readC, allOne, fillL, resE, tupled, ↓reduceIte, Nat.reduceEqDiff, Int.reduceEq, Int.reduceLT, Int.reduceLE, Nat.reduceAdd, Nat.reduceMul, Nat.reduceLT, Nat.reduceLeDiff, reduceCtorEq, runG_un, kdd, kemp, bv_streq, bs_toList, hx, n1, k4, k2, Int.toNat_zero, i1, lenS, Nat.le_refl, Nat.add_sub_cancel, purify, unownT, unown, AV.hf, hfL, hf_strA]
    exact ⟨_, rfl, s', tk', k1, k2, k3, rfl⟩
  rw [if_neg f2]
  by_cases f3 : fk = 3
  · rw [if_pos f3]
    simp (disch := omega) only [wk, avalE, aactE, evPE, boundE, asNat, bv_seql cellsEq_ii, bv_sneqd cellsEq_ii, readC, allOne, fillL, resE, tupled, ↓reduceIte, Nat.reduceEqDiff, Int.reduceEq, Int.reduceLT, Int.reduceLE, Nat.reduceAdd, Nat.reduceMul, Nat.reduceLT, Nat.reduceLeDiff, reduceCtorEq, runG_un, kdd, kemp, bv_streq, bs_toList, hx, n1, j5, j3, Int.toNat_zero, i1, lenS, Nat.le_refl, Nat.add_sub_cancel, purify, unownT, unown, AV.hf, hfL, hf_strA]
    exact ⟨_, rfl, s2, t2, j2, j3, j4, rfl⟩
  · rw [if_neg f3]
    simp (disch := omega) only [wk, avalE, aactE, evPE, boundE, asNat, bv_seql cellsEq_ii, bv_sneqd cellsEq_ii, readC, allOne, fillL, resE, tupled, ↓reduceIte, Nat.reduceEqDiff, Int.reduceEq, Int.reduceLT, Int.reduceLE, Nat.reduceAdd, Nat.reduceMul, Nat.reduceLT, Nat.reduceLeDiff, reduceCtorEq, runG_un, kdd, kemp, bv_streq, bs_toList, hx, n1, rd2, Int.toNat_zero, i1, lenS, Nat.le_refl, Nat.add_sub_cancel, purify, unownT, unown, AV.hf, hfL, hf_strA, Tk.hf]
    exact ⟨_, rfl, 0, .z, fun h => absurd rfl h, rfl, fun h => absurd rfl h, rfl⟩
end Go.Proofs.YtmogflndepihnaaDoor
