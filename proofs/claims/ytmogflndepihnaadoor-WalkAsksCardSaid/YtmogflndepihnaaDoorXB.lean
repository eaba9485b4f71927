/- THE DOCUMENT'S WALKER: done. No condition but those stated. -/
import Derived.Test.YtmogflndepihnaaDoorW9
import Derived.Test.YtmogflndepihnaaDoorK6
import Derived.Test.YtmogflndepihnaaDoorLNo
set_option linter.unusedSimpArgs false
set_option linter.unusedVariables false
set_option linter.unusedSectionVars false
namespace Go.Proofs.YtmogflndepihnaaDoor
open Go Go.Am Go.Nam Go.Wlk Go.Rec
set_option maxHeartbeats 4000000
set_option maxRecDepth 10000
/-- The document's walker, as cells. -/
def rcells (w : Wk) (pv : AV) : List AV := [.int .i64 w.at_, pv, .int .i64 w.links, .bool w.follow, .bool w.fin.isSome] ++ w.endA.cells
theorem rdone_px (w : Wk) (s : Nat) (tk : Tk) (x : Wd) (H : Heap) :
    pcx (cbL tab) 76 [.agg (rcells w (.sl s w.parts.length (encs strA w.parts) tk)), .agg x.cells] H = some (.plain (.agg (rcells (endM w x) (.sl 0 0 [] .z)))) := by
  obtain ⟨u1, e1, f1⟩ : ∃ u1, unown (.sl s w.parts.length (encs strA w.parts) tk) = .sl s w.parts.length (encs strA w.parts) u1 ∧ u1.hf = true := by
    cases tk with
    | own g => exact ⟨.ro, rfl, rfl⟩
    | _ => exact ⟨_, rfl, rfl⟩
  have el : lend (.agg (rcells w (.sl s w.parts.length (encs strA w.parts) tk))) = .agg (rcells w (.sl s w.parts.length (encs strA w.parts) u1)) := by
    have hm : ∀ v, (rcells w v).map unown = rcells w (unown v) := fun v => rfl
    show AV.agg ((rcells w _).map unown) = _
    rw [hm, e1]
  have el2 : lend (.agg x.cells) = .agg x.cells := rfl
  refine pcx_N rfl (pc_wp (fi := c76) rfl ?_ (by simp [c76]) (by decide) ?_)
  · show hfL [lend _, lend _] = true
    rw [el, el2]
    simp [rcells, Wd.cells, hfL, AV.hf, hf_strA, f1]
  unfold c76
  rw [List.map_cons, List.map_cons, List.map_nil, el, el2]
  unfold rcells Wd.cells
  have fv : floatV [.ptr 1 0] [.ptr 0 4] = true := rfl
  simp (disch := omega) only [wk, avalE, aactE, evPE, boundE, asNat, bv_seql cellsEq_ii, bv_sneqd cellsEq_ii, readC, allOne, fillL, resE, tupled, ↓reduceIte, Nat.reduceEqDiff, Int.reduceEq, Int.reduceLT, Int.reduceLE, Nat.reduceAdd, Nat.reduceMul, Nat.reduceLT, Nat.reduceLeDiff, reduceCtorEq, fv, endM, kemp, purify, unownT, unown, AV.hf, hfL, Tk.hf]
  try rfl
theorem rlend (w : Wk) (s : Nat) (tk : Tk) : ∃ u1, lend (.agg (rcells w (.sl s w.parts.length (encs strA w.parts) tk))) = .agg (rcells w (.sl s w.parts.length (encs strA w.parts) u1)) ∧ u1.hf = true := by
  have hm : ∀ v, (rcells w v).map unown = rcells w (unown v) := fun v => rfl
  cases tk with
  | own g => exact ⟨.ro, rfl, rfl⟩
  | ro => exact ⟨.ro, rfl, rfl⟩
  | z => exact ⟨.z, rfl, rfl⟩
  | e => exact ⟨.e, rfl, rfl⟩
/-- The document's walker, handed back. -/
def RW (w : Wk) (r : Option PR) : Prop := ∃ s tk, (w.parts ≠ [] → s = 1) ∧ tk.hf = true ∧ r = some (.plain (.agg (rcells w (.sl s w.parts.length (encs strA w.parts) tk))))
theorem pc_wpE {tab : FuncId → Option AFun} {f : FuncId} {fi : AFun} {args : List AV} {R : PR → Prop} (ht : tab f = some fi) (hon : pcOn fi args = true) (hl : args.length ≤ fi.np) (hf : fi.body.fits fi.np = true)
    (h : Ret (cbL tab) none fi.np (Go.Am.Ends tab fi.res fun o H => ∃ r, purify (some (o, H)) = some r ∧ R r) [.code fi.body] .normal (argE (args.map lend)) [] []) (hcon : fi.con = none := by rfl) : ∃ r, (cbL tab).pc f args = some r ∧ R r := by
  rw [← EV_fr0 fi.np] at h
  obtain ⟨o, H', h1, r, h2, h3⟩ := body_wp (by rw [List.length_map]; exact hl) hf h
  refine ⟨r, ?_, h3⟩
  apply pc_of
  rw [pcA, ht]
  simp only [hcon]
  simp only [hon, if_true]
  rw [h1, h2]
theorem onM_cons {at_ links : Int} {fol : Bool} {x : List UInt8} {r : List (List UInt8)} : onM ⟨at_, x :: r, links, fol, none⟩ = if dot x = true then onM ⟨at_, r, links, fol, none⟩ else ⟨at_, x :: r, links, fol, none⟩ := by
  by_cases h : dot x = true
  · rw [if_pos h]
    unfold onM
    simp only [List.dropWhile_cons, h, if_true]
    rfl
  · rw [if_neg h]
    unfold onM
    simp only [List.dropWhile_cons, h, Bool.false_eq_true, if_false]
theorem ron_px {at_ links : Int} {fol : Bool} (l : List (List UInt8)) (hl : l.length ≤ 10000) (s : Nat) (hs : l ≠ [] → s = 1) (tk0 : Tk) (htn0 : l ≠ [] → tk0 = .ro ∨ ∃ g, tk0 = .own g) :
    ∃ s' tk', ((onM ⟨at_, l, links, fol, none⟩).parts ≠ [] → s' = 1) ∧ tk'.hf = true ∧ ((onM ⟨at_, l, links, fol, none⟩).parts ≠ [] → tk' = .ro) ∧
      ∀ H, pcx (cbL tab) 74 [.agg (rcells ⟨at_, l, links, fol, none⟩ (.sl s l.length (encs strA l) tk0))] H = some (.plain (.agg (rcells (onM ⟨at_, l, links, fol, none⟩) (.sl s' (onM ⟨at_, l, links, fol, none⟩).parts.length (encs strA (onM ⟨at_, l, links, fol, none⟩).parts) tk')))) := by
  obtain ⟨tk, el, ht, htn⟩ : ∃ tk, lend (.agg (rcells ⟨at_, l, links, fol, none⟩ (.sl s l.length (encs strA l) tk0))) = .agg (rcells ⟨at_, l, links, fol, none⟩ (.sl s l.length (encs strA l) tk)) ∧ tk.hf = true ∧ (l ≠ [] → tk = .ro) := by
    cases tk0 with
    | own g => exact ⟨.ro, rfl, rfl, fun _ => rfl⟩
    | ro => exact ⟨.ro, rfl, rfl, fun _ => rfl⟩
    | z => exact ⟨.z, rfl, rfl, fun h => by rcases htn0 h with h | ⟨g, h⟩ <;> cases h⟩
    | e => exact ⟨.e, rfl, rfl, fun h => by rcases htn0 h with h | ⟨g, h⟩ <;> cases h⟩
  have key : ∃ r, (cbL tab).pc 74 [.agg (rcells ⟨at_, l, links, fol, none⟩ (.sl s l.length (encs strA l) tk0))] = some r ∧
      ∃ s' tk', ((onM ⟨at_, l, links, fol, none⟩).parts ≠ [] → s' = 1) ∧ tk'.hf = true ∧ ((onM ⟨at_, l, links, fol, none⟩).parts ≠ [] → tk' = .ro) ∧ r = .plain (.agg (rcells (onM ⟨at_, l, links, fol, none⟩) (.sl s' (onM ⟨at_, l, links, fol, none⟩).parts.length (encs strA (onM ⟨at_, l, links, fol, none⟩).parts) tk'))) := by
    refine pc_wpE (fi := c74) rfl ?_ (by simp [c74]) (by decide) ?_
    · show hfL [lend _] = true
      rw [el]
      simp [rcells, Wk.endA, Wd.cells, hfL, AV.hf, hf_strA, ht]
    unfold c74
    rw [List.map_cons, List.map_nil, el]
    unfold rcells Wd.cells
    simp (disch := omega) only [wk, avalE, aactE, evPE, boundE, asNat, bv_seql cellsEq_ii, bv_sneqd cellsEq_ii, readC, allOne, fillL, resE, tupled, ↓reduceIte, Nat.reduceEqDiff, Int.reduceEq, Int.reduceLT, Int.reduceLE, Nat.reduceAdd, Nat.reduceMul, Nat.reduceLT, Nat.reduceLeDiff, reduceCtorEq, Wk.endA, zeroW, Option.getD_none, Option.isSome_none]
    refine loop_ind (fun (y : List (List UInt8) × Nat × Tk) E df H => y.1.length ≤ 10000 ∧ (y.1 ≠ [] → y.2.1 = 1) ∧ y.2.2.hf = true ∧ (y.1 ≠ [] → y.2.2 = .ro) ∧ onM ⟨at_, l, links, fol, none⟩ = onM ⟨at_, y.1, links, fol, none⟩ ∧ E 1 = .ptr 0 0 ∧ E 2 = .ptr 1 0 ∧ df = [] ∧
        H = [.cells [.int .i64 at_, .sl y.2.1 y.1.length (encs strA y.1) y.2.2, .int .i64 links, .bool fol, .bool false, .int .i64 0, .int .i64 0, .str (bs []), .int .i64 0, .int .i64 0], .cells [.int .i64 0, .sl 0 0 [] .z, .int .i64 0, .bool false, .bool false, .int .i64 0, .int .i64 0, .str (bs []), .int .i64 0, .int .i64 0]])
      (fun y => y.1.length) (l, s, tk) (by decide) (.inl rfl) ⟨hl, hs, ht, htn, rfl, rfl, rfl, rfl, rfl⟩ ?_
    intro ⟨l', s', tk'⟩ E df H ih hP
    obtain ⟨b1, b2, b3, b4, b5, E1, E2, hdf, hH⟩ := hP
    dsimp only at b1 b2 b3 b4 b5 hH
    subst hdf hH
    rw [b5]
    cases l' with
    | nil =>
      have rd := fun H => rdone_px ⟨at_, [], links, fol, none⟩ s' tk' ⟨0, 0, [], at_, 2⟩ H
      unfold rcells Wd.cells at rd
      simp only [Wk.endA, zeroW, Option.getD_none, Option.isSome_none, List.cons_append, List.nil_append, List.length_nil, encs_nil] at rd
      simp (disch := omega) only [wk, avalE, aactE, evPE, boundE, asNat, bv_seql cellsEq_ii, bv_sneqd cellsEq_ii, readC, allOne, fillL, resE, tupled, ↓reduceIte, Nat.reduceEqDiff, Int.reduceEq, Int.reduceLT, Int.reduceLE, Nat.reduceAdd, Nat.reduceMul, Nat.reduceLT, Nat.reduceLeDiff, reduceCtorEq, E1, E2, rd, kemp, purify, unownT, unown, AV.hf, hfL, Tk.hf]
      exact ⟨_, rfl, 0, .z, fun h => absurd rfl h, rfl, fun h => absurd rfl h, rfl⟩
    | cons x r =>
      obtain rfl := b2 (by simp)
      obtain rfl := b4 (by simp)
      have e1 : encs strA (x :: r) = .str (bs x) :: encs strA r := rfl
      simp only [List.length_cons] at b1
      cases hd : dot x with
      | true =>
        have hx : (x == [46]) = true := hd
        simp (disch := omega) only [wk, avalE, aactE, evPE, boundE, asNat, bv_seql cellsEq_ii, bv_sneqd cellsEq_ii, readC, allOne, fillL, resE, tupled, ↓reduceIte, Nat.reduceEqDiff, Int.reduceEq, Int.reduceLT, Int.reduceLE, Nat.reduceAdd, Nat.reduceMul, Nat.reduceLT, Nat.reduceLeDiff, reduceCtorEq, E1, E2, e1, kdot, kemp, bv_streq, bs_toList, hx, Int.toNat_zero, i1, lenS, Nat.le_refl, Nat.add_sub_cancel]
        have hor : onM ⟨at_, x :: r, links, fol, none⟩ = onM ⟨at_, r, links, fol, none⟩ := by rw [onM_cons, if_pos hd]
        rw [← b5]
        refine ih (r, 1, .ro) _ _ _ (by simp) ?_
        refine ⟨by dsimp only; omega, fun _ => rfl, rfl, fun _ => rfl, b5.trans hor, ?_, ?_, rfl, rfl⟩
        · simp only [en, ↓reduceIte, Nat.reduceEqDiff, E1]
        · simp only [en, ↓reduceIte, Nat.reduceEqDiff, E2]
      | false =>
        have hx : (x == [46]) = false := hd
        have ho : onM ⟨at_, x :: r, links, fol, none⟩ = ⟨at_, x :: r, links, fol, none⟩ := by rw [onM_cons, if_neg (by rw [hd]; decide)]
        rw [ho]
        simp (disch := omega) only [wk, avalE, aactE, evPE, boundE, asNat, bv_seql cellsEq_ii, bv_sneqd cellsEq_ii, readC, allOne, fillL, resE, tupled, ↓reduceIte, Nat.reduceEqDiff, Int.reduceEq, Int.reduceLT, Int.reduceLE, Nat.reduceAdd, Nat.reduceMul, Nat.reduceLT, Nat.reduceLeDiff, reduceCtorEq, E1, E2, e1, kdot, kemp, bv_streq, bs_toList, hx, Int.toNat_zero, purify, unownT, unown, AV.hf, hfL, hf_strA]
        exact ⟨_, rfl, 1, .ro, fun _ => rfl, rfl, fun _ => rfl, rfl⟩
  obtain ⟨r, h1, s', tk', h2, h3, h4, rfl⟩ := key
  exact ⟨s', tk', h2, h3, h4, fun H => pcx_N rfl h1⟩
theorem rnew_px {path : List UInt8} {fol : Bool} (hl : path.length ≤ 5000) (hp : partsE path = 0) :
    ∃ s' tk', ((newM path fol).parts ≠ [] → s' = 1) ∧ tk'.hf = true ∧ ((newM path fol).parts ≠ [] → tk' = .ro) ∧
      ∀ H, pcx (cbL tab) 45 [.str (bs path), .bool fol] H = some (.plain (.tup [.agg (rcells (newM path fol) (.sl s' (newM path fol).parts.length (encs strA (newM path fol).parts) tk')), .int .i64 0])) := by
  have rp := fun H => rparts_px path hl H
  have bp := partsM_small path
  have hpm : partsM path = cutP path := if_pos hp
  unfold rpartsV at rp
  rw [hpm] at rp bp
  obtain ⟨s2, t2, m1, m2, m3, m4⟩ : ∃ s2 t2, slvR 1 strA (cutP path) = .sl s2 (cutP path).length (encs strA (cutP path)) t2 ∧ (cutP path ≠ [] → s2 = 1) ∧ t2.hf = true ∧ (cutP path ≠ [] → t2 = .ro) := by
    unfold slvR
    cases h : cutP path with
    | nil => exact ⟨0, .z, rfl, fun h => absurd rfl h, rfl, fun h => absurd rfl h⟩
    | cons x r => exact ⟨1, .ro, rfl, fun _ => rfl, rfl, fun _ => rfl⟩
  rw [m1] at rp
  obtain ⟨s', tk', k1, k2, k3, k4⟩ := ron_px (at_ := 1) (links := 0) (fol := fol) (cutP path) (by omega) s2 m2 t2 (fun h => .inl (m4 h))
  refine ⟨s', tk', k1, k2, k3, fun H => ?_⟩
  refine pcx_N rfl (pc_wp (fi := c45) rfl rfl (by simp [c45]) (by decide) ?_)
  unfold c45
  rw [List.map_cons, List.map_cons, List.map_nil, lend_str, lend_bool]
  have hn : newM path fol = onM ⟨1, cutP path, 0, fol, none⟩ := rfl
  rw [hn]
  generalize onM ⟨1, cutP path, 0, fol, none⟩ = w at *
  unfold rcells Wd.cells at k4
  simp only [Wk.endA, zeroW, Option.getD_none, Option.isSome_none, List.cons_append, List.nil_append] at k4
  unfold rcells Wd.cells Wk.endA
  simp (disch := omega) only [wk, avalE, aactE, evPE, boundE, asNat, bv_seql cellsEq_ii, bv_sneqd cellsEq_ii, readC, allOne, fillL, resE, tupled, ↓reduceIte, Nat.reduceEqDiff, Int.reduceEq, Int.reduceLT, Int.reduceLE, Nat.reduceAdd, Nat.reduceMul, Nat.reduceLT, Nat.reduceLeDiff, reduceCtorEq, rp, hp, kemp, k4, purify, unownT, unown, AV.hf, hfL, hf_strA, k2, zeroW]
theorem rnew_no {path : List UInt8} {fol : Bool} (hl : path.length ≤ 5000) (hp : partsE path ≠ 0) (H : Heap) :
    pcx (cbL tab) 45 [.str (bs path), .bool fol] H = some (.plain (.tup [.agg [.int .i64 0, .sl 0 0 [] .z, .int .i64 0, .bool false, .bool false, .int .i64 0, .int .i64 0, .str (bs []), .int .i64 0, .int .i64 0], .int .i64 (partsE path)])) := by
  have rp := fun H => rparts_px path hl H
  unfold rpartsV at rp
  obtain ⟨s2, t2, m1, m2, m3⟩ := slvR_form 1 strA (partsM path)
  rw [m1] at rp
  refine pcx_N rfl (pc_wp (fi := c45) rfl rfl (by simp [c45]) (by decide) ?_)
  unfold c45
  rw [List.map_cons, List.map_cons, List.map_nil, lend_str, lend_bool]
  simp (disch := omega) only [wk, avalE, aactE, evPE, boundE, asNat, bv_seql cellsEq_ii, bv_sneqd cellsEq_ii, readC, allOne, fillL, resE, tupled, ↓reduceIte, Nat.reduceEqDiff, Int.reduceEq, Int.reduceLT, Int.reduceLE, Nat.reduceAdd, Nat.reduceMul, Nat.reduceLT, Nat.reduceLeDiff, reduceCtorEq, rp, hp, kemp, purify, unownT, unown, AV.hf, hfL, Tk.hf]
theorem rmiss_px {at_ links : Int} {fol : Bool} (l : List (List UInt8)) (hl : l.length ≤ 10000) (s : Nat) (hs : l ≠ [] → s = 1) (tk : Tk) (ht : tk.hf = true) (H : Heap) :
    pcx (cbL tab) 48 [.agg (rcells ⟨at_, l, links, fol, none⟩ (.sl s l.length (encs strA l) tk))] H = some (.plain (.agg (rcells (missM ⟨at_, l, links, fol, none⟩) (.sl 0 0 [] .z)))) := by
  have el : lend (.agg (rcells ⟨at_, l, links, fol, none⟩ (.sl s l.length (encs strA l) tk))) = .agg (rcells ⟨at_, l, links, fol, none⟩ (.sl s l.length (encs strA l) tk)) := by
    have hm : ∀ v, (rcells ⟨at_, l, links, fol, none⟩ v).map unown = rcells ⟨at_, l, links, fol, none⟩ (unown v) := fun v => rfl
    show AV.agg ((rcells _ _).map unown) = _
    rw [hm]
    cases tk <;> first | rfl | cases ht
  refine pcx_N rfl (pc_wp (fi := c48) rfl ?_ (by simp [c48]) (by decide) ?_)
  · show hfL [lend _] = true
    rw [el]
    simp [rcells, Wk.endA, Wd.cells, hfL, AV.hf, hf_strA, ht]
  unfold c48
  rw [List.map_cons, List.map_nil, el]
  by_cases hl1 : l.length = 1
  · obtain ⟨p, rfl⟩ : ∃ p, l = [p] := by
      cases l with
      | nil => simp at hl1
      | cons p r => cases r with
        | nil => exact ⟨p, rfl⟩
        | cons q r => simp at hl1
    obtain rfl := hs (by simp)
    have rd := fun H => rdone_px ⟨at_, [p], links, fol, none⟩ 1 tk ⟨270, at_, p, 0, 0⟩ H
    have e1 : encs strA [p] = [.str (bs p)] := rfl
    have fv : ∀ cs, floatV [.ptr 0 1, .eptr cs] [.ptr 2 1] = true := fun cs => rfl
    unfold rcells Wd.cells Wk.endA at rd
    simp only [zeroW, Option.getD_none, Option.isSome_none, List.cons_append, List.nil_append, List.length_cons, List.length_nil, Nat.zero_add, e1] at rd
    unfold rcells Wd.cells
    simp (disch := omega) only [wk, avalE, aactE, evPE, boundE, asNat, bv_seql cellsEq_ii, bv_sneqd cellsEq_ii, readC, allOne, fillL, resE, tupled, ↓reduceIte, Nat.reduceEqDiff, Int.reduceEq, Int.reduceLT, Int.reduceLE, Nat.reduceAdd, Nat.reduceMul, Nat.reduceLT, Nat.reduceLeDiff, reduceCtorEq, Wk.endA, zeroW, Option.getD_none, Option.isSome_none, e1, fv, kemp, rd, missM, endM, Int.toNat_zero, purify, unownT, unown, AV.hf, hfL, Tk.hf]
    try rfl
  · have n1 : ¬ (l.length : Int) = 1 := by omega
    have hm : missM ⟨at_, l, links, fol, none⟩ = endM ⟨at_, l, links, fol, none⟩ ⟨270, 0, [], 0, 0⟩ := by
      unfold missM
      dsimp only
      split
      · rename_i q h; simp at hl1
      · rfl
    rw [hm]
    have rd := fun H => rdone_px ⟨at_, l, links, fol, none⟩ s tk ⟨270, 0, [], 0, 0⟩ H
    unfold rcells Wd.cells Wk.endA at rd
    simp only [zeroW, Option.getD_none, Option.isSome_none, List.cons_append, List.nil_append] at rd
    unfold rcells Wd.cells
    simp (disch := omega) only [wk, avalE, aactE, evPE, boundE, asNat, bv_seql cellsEq_ii, bv_sneqd cellsEq_ii, readC, allOne, fillL, resE, tupled, ↓reduceIte, Nat.reduceEqDiff, Int.reduceEq, Int.reduceLT, Int.reduceLE, Nat.reduceAdd, Nat.reduceMul, Nat.reduceLT, Nat.reduceLeDiff, reduceCtorEq, Wk.endA, zeroW, Option.getD_none, Option.isSome_none, kemp, rd, endM, n1, purify, unownT, unown, AV.hf, hfL, Tk.hf]
    try rfl
section
variable {cb : CB} {rd : Option Nat} {n : Nat} {Q : KP} {ks : List Kt} {E : Env} {df : List ADf} {H : Heap}
/-- An append of a row that may be empty. -/
theorem runX_app0 {sz bytes s : Nat} {x : AV} {m : Nat} {ds : List AV} {tk : Tk} {n0 : Nat} {cs : List AV} {d : Option Nat} {rest : List AOper} (ho : Own H sz x n0 cs) (hz : 0 < sz) (hb : (n0 + m) * bytes ≤ 70368744177664) (hb2 : n0 + m ≤ 70368744177664)
    (hs : m ≠ 0 → s = sz) (hl : ds.length = m * sz) (h1 : allOne ds = true)
    (k : ∀ v H', Own H' sz v (n0 + m) (cs ++ ds) → Kept (tokOf x) H H' → RR cb rd n Q rest ks (updD E d v) df H') :
    RunX (appV sz bytes x (.sl s m ds tk) H) d rest cb rd n Q ks E df := by
  by_cases hm : m = 0
  · subst hm
    obtain rfl : ds = [] := List.eq_nil_of_length_eq_zero (by rw [hl, Nat.zero_mul])
    have key : appV sz bytes x (.sl s 0 [] tk) H = some (.val x, H) := by
      rcases ho with ⟨rfl | rfl, rfl, rfl⟩ | ⟨h0, g, rfl, hg⟩ <;> simp [appV, hz, hb, hb2]
      all_goals (try omega)
      exact ⟨hb, hb2⟩
    rw [key, runX_val]
    refine k x H ?_ (fun id o h _ => h)
    rw [Nat.add_zero, List.append_nil]
    exact ho
  · obtain rfl := hs hm
    exact runX_app ho hz hb hb2 hm hl h1 (fun H' a b c => k _ _ a b)
end
theorem own_form {H : Heap} {sz : Nat} {v : AV} {n : Nat} {cs : List AV} (ho : Own H sz v n cs) : ∃ s tk, v = .sl s n cs tk ∧ (n ≠ 0 → s = sz) ∧ (n ≠ 0 → tk = .ro ∨ ∃ g, tk = .own g) := by
  rcases ho with ⟨h | h, hn, hc⟩ | ⟨hn, g, h, _⟩
  · exact ⟨_, _, h, fun h => absurd hn h, fun h => absurd hn h⟩
  · exact ⟨_, _, h, fun h => rfl, fun h => absurd hn h⟩
  · exact ⟨_, _, h, fun _ => rfl, fun _ => .inr ⟨g, rfl⟩⟩
theorem kept2 {H H' : Heap} {v : AV} {n sz : Nat} {cs : List AV} (ho : Own H sz v n cs) (k : Kept (tokOf v) H H') {i : Nat} {c : List AV} (h : H[i]? = some (.cells c)) : H'[i]? = some (.cells c) := k.cells ho rfl h (fun s e => by cases e)
/-- The document's walker, handed back by a call. -/
def RWp (w : Wk) (r : PR) : Prop := ∃ s tk, (w.parts ≠ [] → s = 1) ∧ tk.hf = true ∧ (w.parts ≠ [] → tk = .ro) ∧ r = .plain (.agg (rcells w (.sl s w.parts.length (encs strA w.parts) tk)))
theorem slvR_form2 (l : List (List UInt8)) : ∃ s tk, slvR 1 strA l = .sl s l.length (encs strA l) tk ∧ (l ≠ [] → s = 1) ∧ tk.hf = true ∧ (l ≠ [] → tk = .ro) := by
  unfold slvR
  cases l with
  | nil => exact ⟨0, .z, rfl, fun h => absurd rfl h, rfl, fun h => absurd rfl h⟩
  | cons x r => exact ⟨1, .ro, rfl, fun _ => rfl, rfl, fun _ => rfl⟩
def lkTl : ACode := (.seq (.region [⟨(.some 30), (.mv (.t 5)), .none⟩, ⟨(.some 31), (.callf 19 [(.t 30)]), .none⟩, ⟨(.some 29), (.mv (.t 31)), .none⟩, ⟨(.some 32), (.ext (.t 29) 0), .none⟩, ⟨(.some 33), (.ext (.t 29) 1), .none⟩, ⟨(.some 6), (.mv (.t 32)), .none⟩, ⟨(.some 7), (.mv (.t 33)), .none⟩]) (.seq (.seq (.region [⟨(.some 34), (.mv (.t 7)), .none⟩, ⟨(.some 35), (.bin .neq .num (.t 34) (.c (.int .i64 0))), .none⟩]) (.cond (.t 35) (.seq (.region [⟨(.some 36), (.load 10 true (.t 2)), .none⟩, ⟨(.some 37), (.mv (.t 7)), .none⟩, ⟨(.some 38), (.build [(.int .i64 0), (.int .i64 0), (.str (ByteArray.mk (Array.mk []))), (.int .i64 0), (.int .i64 0)] [(0, (1, (.t 37)))]), .none⟩, ⟨(.some 39), (.callf 76 [(.t 36), (.t 38)]), .none⟩, ⟨.none, (.store 10 (.t 4) (.t 39)), .none⟩]) .ret) .skip)) (.seq (.drawn [⟨(.some 40), (.bslice 1 0 [] []), .none⟩, ⟨(.some 41), (.mv (.t 6)), .none⟩, ⟨(.some 43), (.fld 1 (.t 2)), .none⟩, ⟨(.some 44), (.load 1 false (.t 43)), .none⟩] [⟨.none, (.chk [(.t 43)] []), .none⟩, ⟨(.some 42), (.append 1 16 (.t 40) (.t 41)), .none⟩, ⟨(.some 45), (.append 1 16 (.t 42) (.t 44)), .none⟩, ⟨(.some 46), (.fld 1 (.t 2)), .none⟩, ⟨.none, (.store 1 (.t 46) (.t 45)), .none⟩]) (.seq (.region [⟨(.some 47), (.load 10 true (.t 2)), .none⟩, ⟨(.some 48), (.callf 74 [(.t 47)]), .none⟩, ⟨.none, (.store 10 (.t 4) (.t 48)), .none⟩]) .ret))))
theorem link_tail {at_ links : Int} {fol : Bool} (l : List (List UInt8)) (hl : l.length ≤ 6000) (s : Nat) (hs : l ≠ [] → s = 1) (tk : Tk) (htn : l ≠ [] → tk = .ro) {E : Env} (E2 : E 2 = .ptr 0 0) (E4 : E 4 = .ptr 1 0) (p : List UInt8) (hp : p.length ≤ 5000) (E5 : E 5 = .str (bs p)) (Z : List AV) (hZ : Z.length = 10) :
    Ret (cbL tab) none 49 (Am.Ends tab [(.cell 4 10 true)] fun o H => ∃ r, purify (some (o, H)) = some r ∧ RWp (if partsE p = 0 then onM ⟨at_, cutP p ++ l, links, fol, none⟩ else endM ⟨at_, l, links, fol, none⟩ ⟨partsE p, 0, [], 0, 0⟩) r) [.code lkTl] .normal E [] [.cells [.int .i64 at_, .sl s l.length (encs strA l) tk, .int .i64 links, .bool fol, .bool false, .int .i64 0, .int .i64 0, .str (bs []), .int .i64 0, .int .i64 0], .cells Z] := by
  match Z, hZ with
  | [y0, y1, y2, y3, y4, y5, y6, y7, y8, y9], _ =>
  have rp := fun H => rparts_px p hp H
  have bp := partsM_small p
  unfold rpartsV at rp
  unfold lkTl
  by_cases ep : partsE p = 0
  case neg =>
    rw [if_neg ep]
    obtain ⟨s2, t2, m1, m2, m3, m4⟩ := slvR_form2 (partsM p)
    rw [m1] at rp
    have rd := fun H => rdone_px ⟨at_, l, links, fol, none⟩ s tk ⟨partsE p, 0, [], 0, 0⟩ H
    unfold rcells Wd.cells Wk.endA at rd
    simp only [zeroW, Option.getD_none, Option.isSome_none, List.cons_append, List.nil_append] at rd
    simp (disch := omega) only [wk, avalE, aactE, evPE, boundE, asNat, bv_seql cellsEq_ii, bv_sneqd cellsEq_ii, readC, allOne, fillL, resE, tupled, ↓reduceIte, Nat.reduceEqDiff, Int.reduceEq, Int.reduceLT, Int.reduceLE, Nat.reduceAdd, Nat.reduceMul, Nat.reduceLT, Nat.reduceLeDiff, reduceCtorEq, E2, E4, E5, rp, ep, rd, kemp, endM, purify, unownT, unown, AV.hf, hfL, Tk.hf]
    exact ⟨_, rfl, 0, .z, fun h => absurd rfl h, rfl, fun h => absurd rfl h, rfl⟩
  rw [if_pos ep]
  have hpm : partsM p = cutP p := if_pos ep
  rw [hpm, ep] at rp
  rw [hpm] at bp
  obtain ⟨s2, t2, m1, m2, m3, m4⟩ := slvR_form2 (cutP p)
  rw [m1] at rp
  generalize hA : cutP p = A at *
  have own0 : Own ([.cells [.int .i64 at_, .sl s l.length (encs strA l) tk, .int .i64 links, .bool fol, .bool false, .int .i64 0, .int .i64 0, .str (bs []), .int .i64 0, .int .i64 0], .cells [y0, y1, y2, y3, y4, y5, y6, y7, y8, y9]] : Heap) 1 (.sl 1 0 [] .e) 0 [] := .inl ⟨.inr rfl, rfl, rfl⟩
  have fv : floatV [.ptr 0 1] [] = true := rfl
  simp (disch := omega) only [wk, avalE, aactE, evPE, boundE, asNat, bv_seql cellsEq_ii, bv_sneqd cellsEq_ii, readC, allOne, fillL, resE, tupled, ↓reduceIte, Nat.reduceEqDiff, Int.reduceEq, Int.reduceLT, Int.reduceLE, Nat.reduceAdd, Nat.reduceMul, Nat.reduceLT, Nat.reduceLeDiff, reduceCtorEq, E2, E4, E5, rp, fv]
  refine runX_app0 own0 (by omega) (by omega) (by omega) (fun h => m2 (fun e => h (by rw [e]; rfl))) (by rw [lenS]; omega) (one_strA _) (fun v1 H1 q1 q2 => ?_)
  simp only [Nat.zero_add, List.nil_append] at q1
  have a0 := kept2 own0 q2 (i := 0) rfl
  have a1 := kept2 own0 q2 (i := 1) rfl
  simp (disch := omega) only [wk, avalE, aactE, evPE, boundE, asNat, bv_seql cellsEq_ii, bv_sneqd cellsEq_ii, readC, allOne, fillL, resE, tupled, ↓reduceIte, Nat.reduceEqDiff, Int.reduceEq, Int.reduceLT, Int.reduceLE, Nat.reduceAdd, Nat.reduceMul, Nat.reduceLT, Nat.reduceLeDiff, reduceCtorEq, E2, E4, E5, a0, a1]
  refine runX_app0 q1 (by omega) (by omega) (by omega) (fun h => hs (fun e => h (by rw [e]; rfl))) (by rw [lenS]; omega) (one_strA _) (fun v2 H2 r1 r2 => ?_)
  have b0 := kept2 q1 r2 a0
  have b1 := kept2 q1 r2 a1
  obtain ⟨s3, t3, rfl, h3, h4⟩ := own_form r1
  have c0 : ∀ o, (H2.set 0 o)[0]? = some o := fun o => set_eq b0
  have c1 : ∀ o, (H2.set 0 o)[1]? = _ := fun o => (set_ne (by omega)).trans b1
  have c2 : ∀ o o', ((H2.set 0 o).set 1 o')[1]? = some o' := fun o o' => set_eq (c1 o)
  have ee : encs strA A ++ encs strA l = encs strA (A ++ l) := (encs_append _ _ _).symm
  have el : A.length + l.length = (A ++ l).length := (List.length_append ..).symm
  rw [ee, el] at *
  have hne : A ++ l ≠ [] → A.length + l.length ≠ 0 := fun h e => h (List.eq_nil_of_length_eq_zero (by rw [List.length_append]; exact e))
  obtain ⟨s', tk', k1, k2, k3, k4⟩ := ron_px (at_ := at_) (links := links) (fol := fol) (A ++ l) (by rw [List.length_append]; omega) s3 (fun h => h3 (hne h)) t3 (fun h => h4 (hne h))
  generalize A ++ l = B at *
  generalize hw : onM ⟨at_, B, links, fol, none⟩ = w at *
  unfold rcells Wd.cells at k4
  simp only [Wk.endA, zeroW, Option.getD_none, Option.isSome_none, List.cons_append, List.nil_append] at k4
  simp (disch := omega) only [wk, avalE, aactE, evPE, boundE, asNat, bv_seql cellsEq_ii, bv_sneqd cellsEq_ii, readC, allOne, fillL, resE, tupled, ↓reduceIte, Nat.reduceEqDiff, Int.reduceEq, Int.reduceLT, Int.reduceLE, Nat.reduceAdd, Nat.reduceMul, Nat.reduceLT, Nat.reduceLeDiff, reduceCtorEq, E2, E4, E5, b0, b1, c0, c1, c2, k4, purify, unownT, unown, AV.hf, hfL, hf_strA, k2]
  exact ⟨_, rfl, s', tk', k1, k2, k3, rfl⟩
theorem rlendA {at_ links : Int} {fol : Bool} (l : List (List UInt8)) (s : Nat) (tk : Tk) (ht : tk.hf = true) : lend (.agg (rcells ⟨at_, l, links, fol, none⟩ (.sl s l.length (encs strA l) tk))) = .agg (rcells ⟨at_, l, links, fol, none⟩ (.sl s l.length (encs strA l) tk)) := by
  have hm : ∀ v, (rcells ⟨at_, l, links, fol, none⟩ v).map unown = rcells ⟨at_, l, links, fol, none⟩ (unown v) := fun v => rfl
  show AV.agg ((rcells _ _).map unown) = _
  rw [hm]
  cases tk <;> first | rfl | cases ht
theorem rlink_pc {at_ links : Int} {fol : Bool} (l : List (List UInt8)) (hl : l.length ≤ 6000) (s : Nat) (hs : l ≠ [] → s = 1) (tk : Tk) (ht : tk.hf = true) (htn : l ≠ [] → tk = .ro) (hk : 0 ≤ links ∧ links ≤ 100) (t : List UInt8) (htl : t.length ≤ 4000) :
    ∃ r, (cbL tab).pc 77 [.agg (rcells ⟨at_, l, links, fol, none⟩ (.sl s l.length (encs strA l) tk)), .str (bs t)] = some r ∧ RWp (linkM ⟨at_, l, links, fol, none⟩ t) r := by
  have el := rlendA (at_ := at_) (links := links) (fol := fol) l s tk ht
  refine pc_wpE (fi := c77) rfl ?_ (by simp [c77]) (by decide) ?_
  · show hfL [lend _, lend _] = true
    rw [el]
    simp [rcells, Wk.endA, Wd.cells, hfL, AV.hf, hf_strA, ht, lend_str]
  show Ret (cbL tab) none 49 (Am.Ends tab [(.cell 4 10 true)] _) [.code (.seq _ (.seq _ (.seq _ (.seq _ lkTl))))] .normal (argE (List.map lend [.agg (rcells _ _), .str (bs t)])) [] []
  rw [List.map_cons, List.map_cons, List.map_nil, el, lend_str]
  unfold rcells Wd.cells
  unfold linkM
  by_cases h8 : 8 < links + 1
  · rw [if_pos h8]
    have rd := fun H => rdone_px ⟨at_, l, links + 1, fol, none⟩ s tk ⟨272, 0, [], 0, 0⟩ H
    unfold rcells Wd.cells Wk.endA at rd
    simp only [zeroW, Option.getD_none, Option.isSome_none, List.cons_append, List.nil_append] at rd
    simp (disch := omega) only [wk, avalE, aactE, evPE, boundE, asNat, bv_seql cellsEq_ii, bv_sneqd cellsEq_ii, readC, allOne, fillL, resE, tupled, ↓reduceIte, Nat.reduceEqDiff, Int.reduceEq, Int.reduceLT, Int.reduceLE, Nat.reduceAdd, Nat.reduceMul, Nat.reduceLT, Nat.reduceLeDiff, reduceCtorEq, Wk.endA, zeroW, Option.getD_none, Option.isSome_none, h8, rd, kemp, endM, purify, unownT, unown, AV.hf, hfL, Tk.hf]
    exact ⟨_, rfl, 0, .z, fun h => absurd rfl h, rfl, fun h => absurd rfl h, rfl⟩
  rw [if_neg h8]
  have k47 : ByteArray.mk (Array.mk [UInt8.ofNat 47]) = bs [47] := rfl
  by_cases h47 : t.head? = some 47
  · have sl : slashed t = t := if_pos h47
    rw [sl]
    simp only [if_pos h47]
    obtain ⟨r, rfl⟩ : ∃ r, t = 47 :: r := by
      cases t with
      | nil => cases h47
      | cons c r => cases h47; exact ⟨r, rfl⟩
    have x1 : ((47 :: r : List UInt8) == []) = false := rfl
    have x2 : (bs (47 :: r))[Int.toNat 0]? = some 47 := by rw [bs_get]; rfl
    have x3 : ((47 : UInt8).toNat : Int) = 47 := rfl
    simp (disch := omega) only [wk, avalE, aactE, evPE, boundE, asNat, bv_seql cellsEq_ii, bv_sneqd cellsEq_ii, readC, allOne, fillL, resE, tupled, ↓reduceIte, Nat.reduceEqDiff, Int.reduceEq, Int.reduceLT, Int.reduceLE, Nat.reduceAdd, Nat.reduceMul, Nat.reduceLT, Nat.reduceLeDiff, reduceCtorEq, Wk.endA, zeroW, Option.getD_none, Option.isSome_none, h8, kemp, bv_streq, bs_toList, x1, x2, x3]
    exact link_tail l hl s hs tk htn (by simp only [en, ↓reduceIte, Nat.reduceEqDiff]) (by simp only [en, ↓reduceIte, Nat.reduceEqDiff]) (47 :: r) (by omega) (by simp only [en, ↓reduceIte, Nat.reduceEqDiff]) _ rfl
  · have sl : slashed t = 47 :: t := if_neg h47
    rw [sl]
    simp only [if_neg h47]
    have sa : ∀ {xo yo : X}, binV .add .str xo yo (.str (bs [47])) (.str (bs t)) = some (.str (bs (47 :: t))) := stradd htl
    cases t with
    | nil =>
      have x1 : (([] : List UInt8) == []) = true := rfl
      simp (disch := omega) only [wk, avalE, aactE, evPE, boundE, asNat, bv_seql cellsEq_ii, bv_sneqd cellsEq_ii, readC, allOne, fillL, resE, tupled, ↓reduceIte, Nat.reduceEqDiff, Int.reduceEq, Int.reduceLT, Int.reduceLE, Nat.reduceAdd, Nat.reduceMul, Nat.reduceLT, Nat.reduceLeDiff, reduceCtorEq, Wk.endA, zeroW, Option.getD_none, Option.isSome_none, h8, kemp, k47, bv_streq, bs_toList, x1, sa]
      exact link_tail l hl s hs tk htn (by simp only [en, ↓reduceIte, Nat.reduceEqDiff]) (by simp only [en, ↓reduceIte, Nat.reduceEqDiff]) [47] (by simp) (by simp only [en, ↓reduceIte, Nat.reduceEqDiff]) _ rfl
    | cons c r =>
      have hc : c ≠ 47 := fun e => h47 (by rw [e]; rfl)
      have x1 : ((c :: r : List UInt8) == []) = false := rfl
      have x2 : (bs (c :: r))[Int.toNat 0]? = some c := by rw [bs_get]; rfl
      have x3 : ¬ (c.toNat : Int) = 47 := fun e => hc (by apply UInt8.toNat_inj.1; show c.toNat = 47; omega)
      simp (disch := omega) only [wk, avalE, aactE, evPE, boundE, asNat, bv_seql cellsEq_ii, bv_sneqd cellsEq_ii, readC, allOne, fillL, resE, tupled, ↓reduceIte, Nat.reduceEqDiff, Int.reduceEq, Int.reduceLT, Int.reduceLE, Nat.reduceAdd, Nat.reduceMul, Nat.reduceLT, Nat.reduceLeDiff, reduceCtorEq, Wk.endA, zeroW, Option.getD_none, Option.isSome_none, h8, kemp, k47, bv_streq, bs_toList, x1, x2, x3, sa]
      exact link_tail l hl s hs tk htn (by simp only [en, ↓reduceIte, Nat.reduceEqDiff]) (by simp only [en, ↓reduceIte, Nat.reduceEqDiff]) (47 :: c :: r) (by simp only [List.length_cons] at htl ⊢; omega) (by simp only [en, ↓reduceIte, Nat.reduceEqDiff]) _ rfl
theorem runG_un {cb : CB} {rd : Option Nat} {n : Nat} {Q : KP} {ks : List Kt} {E : Env} {df : List ADf} {H : Heap} {b : Bool} {d : Option Nat} {op : AOp} {rest : List AOper} : RunG (.tup []) b d op rest cb rd n Q ks E df H = RR cb rd n Q rest ks (updD E d (.tup [])) df H := rfl
theorem rgive_pc {at_ links : Int} {fol : Bool} (p : List UInt8) (r : List (List UInt8)) (hl : r.length ≤ 6000) (hk : 0 ≤ links ∧ links ≤ 100) (f : Fnd) (htl : f.target.length ≤ 4000) :
    ∃ q, (cbL tab).pc 49 [.agg (rcells ⟨at_, p :: r, links, fol, none⟩ (.sl 1 (p :: r).length (encs strA (p :: r)) .ro)), .agg f.cells] = some q ∧ RWp (giveM ⟨at_, p :: r, links, fol, none⟩ f) q := by
  obtain ⟨fi, fk, t⟩ := f
  dsimp only at htl
  have el := rlendA (at_ := at_) (links := links) (fol := fol) (p :: r) 1 .ro rfl
  have el2 : lend (.agg (Fnd.cells ⟨fi, fk, t⟩)) = .agg (Fnd.cells ⟨fi, fk, t⟩) := rfl
  refine pc_wpE (fi := c49) rfl ?_ (by simp [c49]) (by decide) ?_
  · show hfL [lend _, lend _] = true
    rw [el, el2]
    simp [rcells, Wk.endA, Wd.cells, Fnd.cells, hfL, AV.hf, hf_strA, Tk.hf]
  unfold c49
  rw [List.map_cons, List.map_cons, List.map_nil, el, el2]
  have e1 : encs strA (p :: r) = .str (bs p) :: encs strA r := rfl
  obtain ⟨s', tk', k1, k2, k3, k4⟩ := ron_px (at_ := fi) (links := links) (fol := fol) r (by omega) 1 (fun _ => rfl) .ro (fun _ => .inl rfl)
  obtain ⟨q, j1, s2, t2, j2, j3, j4, rfl⟩ := rlink_pc (at_ := at_) (links := links) (fol := fol) r hl 1 (fun _ => rfl) .ro rfl (fun _ => rfl) hk t htl
  have j5 := fun H => pcx_N (H := H) (cb := cbL tab) (f := 77) rfl j1
  have rd := fun H x => rdone_px ⟨at_, r, links, fol, none⟩ 1 .ro x H
  have em : ∀ x, endM ⟨at_, p :: r, links, fol, none⟩ x = endM ⟨at_, r, links, fol, none⟩ x := fun x => rfl
  unfold giveM
  dsimp only
  generalize hon : onM ⟨fi, r, links, fol, none⟩ = wo at *
  generalize hlk : linkM ⟨at_, r, links, fol, none⟩ t = wl at *
  have rd1 := fun H => rd H ⟨0, at_, p, fi, fk⟩
  have rd2 := fun H => rd H ⟨271, 0, [], 0, 0⟩
  clear rd j1
  rw [em, em]
  unfold rcells Wd.cells at k4 j5 rd1 rd2 ⊢
  unfold Fnd.cells
  simp only [Wk.endA, zeroW, Option.getD_none, Option.isSome_none, List.cons_append, List.nil_append, List.length_cons, e1] at k4 j5 rd1 rd2 ⊢
  by_cases hp : p = [46, 46]
  · have hx : (p == [46, 46]) = true := by rw [hp]; rfl
    rw [if_pos hp]
    simp (disch := omega) only [wk, avalE, aactE, evPE, boundE, asNat, bv_seql cellsEq_ii, bv_sneqd cellsEq_ii, readC, allOne, fillL, resE, tupled, ↓reduceIte, Nat.reduceEqDiff, Int.reduceEq, Int.reduceLT, Int.reduceLE, Nat.reduceAdd, Nat.reduceMul, Nat.reduceLT, Nat.reduceLeDiff, reduceCtorEq, runG_un, kdd, kemp, bv_streq, bs_toList, hx, k4, k2, Int.toNat_zero, i1, lenS, Nat.le_refl, Nat.add_sub_cancel, purify, unownT, unown, AV.hf, hfL, hf_strA]
    exact ⟨_, rfl, s', tk', k1, k2, k3, rfl⟩
  have hx : (p == [46, 46]) = false := by simpa using hp
  rw [if_neg hp]
  by_cases hr : r = []
  · rw [if_pos hr]
    have n1 : ¬ 0 < (r.length : Int) := by rw [hr]; simp
    by_cases f3 : fk = 3
    · cases fol with
      | true =>
        rw [if_pos ⟨f3, rfl⟩]
        simp (disch := omega) only [wk, avalE, aactE, evPE, boundE, asNat, bv_seql cellsEq_ii, bv_sneqd cellsEq_ii, readC, allOne, fillL, resE, tupled, ↓reduceIte, Nat.reduceEqDiff, Int.reduceEq, Int.reduceLT, Int.reduceLE, Nat.reduceAdd, Nat.reduceMul, Nat.reduceLT, Nat.reduceLeDiff, reduceCtorEq, runG_un, kdd, kemp, bv_streq, bs_toList, hx, n1, j5, j3, Int.toNat_zero, i1, lenS, Nat.le_refl, Nat.add_sub_cancel, purify, unownT, unown, AV.hf, hfL, hf_strA]
        exact ⟨_, rfl, s2, t2, j2, j3, j4, rfl⟩
      | false =>
        rw [if_neg (by rintro ⟨_, h⟩; cases h)]
        simp (disch := omega) only [wk, avalE, aactE, evPE, boundE, asNat, bv_seql cellsEq_ii, bv_sneqd cellsEq_ii, readC, allOne, fillL, resE, tupled, ↓reduceIte, Nat.reduceEqDiff, Int.reduceEq, Int.reduceLT, Int.reduceLE, Nat.reduceAdd, Nat.reduceMul, Nat.reduceLT, Nat.reduceLeDiff, reduceCtorEq, runG_un, kdd, kemp, bv_streq, bs_toList, hx, n1, rd1, Int.toNat_zero, i1, lenS, Nat.le_refl, Nat.add_sub_cancel, Bool.false_eq_true, purify, unownT, unown, AV.hf, hfL, hf_strA, Tk.hf]
        exact ⟨_, rfl, 0, .z, fun h => absurd rfl h, rfl, fun h => absurd rfl h, rfl⟩
    · rw [if_neg (fun h => f3 h.1)]
      by_cases f2 : fk = 2
      · simp (disch := omega) only [wk, avalE, aactE, evPE, boundE, asNat, bv_seql cellsEq_ii, bv_sneqd cellsEq_ii, readC, allOne, fillL, resE, tupled, ↓reduceIte, Nat.reduceEqDiff, Int.reduceEq, Int.reduceLT, Int.reduceLE, Nat.reduceAdd, Nat.reduceMul, Nat.reduceLT, Nat.reduceLeDiff, reduceCtorEq, runG_un, kdd, kemp, bv_streq, bs_toList, hx, n1, rd1, Int.toNat_zero, i1, lenS, Nat.le_refl, Nat.add_sub_cancel, purify, unownT, unown, AV.hf, hfL, hf_strA, Tk.hf]
        exact ⟨_, rfl, 0, .z, fun h => absurd rfl h, rfl, fun h => absurd rfl h, rfl⟩
      · simp (disch := omega) only [wk, avalE, aactE, evPE, boundE, asNat, bv_seql cellsEq_ii, bv_sneqd cellsEq_ii, readC, allOne, fillL, resE, tupled, ↓reduceIte, Nat.reduceEqDiff, Int.reduceEq, Int.reduceLT, Int.reduceLE, Nat.reduceAdd, Nat.reduceMul, Nat.reduceLT, Nat.reduceLeDiff, reduceCtorEq, runG_un, kdd, kemp, bv_streq, bs_toList, hx, n1, rd1, Int.toNat_zero, i1, lenS, Nat.le_refl, Nat.add_sub_cancel, purify, unownT, unown, AV.hf, hfL, hf_strA, Tk.hf]
        exact ⟨_, rfl, 0, .z, fun h => absurd rfl h, rfl, fun h => absurd rfl h, rfl⟩
  rw [if_neg hr]
  have n0 : r.length ≠ 0 := fun e => hr (List.eq_nil_of_length_eq_zero e)
  have n1 : 0 < (r.length : Int) := by omega
  by_cases f2 : fk = 2
  · rw [if_pos f2]
    have f3 : ¬ fk = 3 := by omega
    simp (disch := omega) only [wk, avalE, aactE, evPE, boundE, asNat, bv_seql cellsEq_ii, bv_sneqd cellsEq_ii, readC, allOne, fillL, resE, tupled, ↓reduceIte, Nat.reduceEqDiff, Int.reduceEq, Int.reduceLT, Int.reduceLE, Nat.reduceAdd, Nat.reduceMul, Nat.reduceLT, Nat.reduceLeDiff, reduceCtorEq, runG_un, kdd, kemp, bv_streq, bs_toList, hx, n1, k4, k2, Int.toNat_zero, i1, lenS, Nat.le_refl, Nat.add_sub_cancel, purify, unownT, unown, AV.hf, hfL, hf_strA]
    exact ⟨_, rfl, s', tk', k1, k2, k3, rfl⟩
  rw [if_neg f2]
  by_cases f3 : fk = 3
  · rw [if_pos f3]
    simp (disch := omega) only [wk, avalE, aactE, evPE, boundE, asNat, bv_seql cellsEq_ii, bv_sneqd cellsEq_ii, readC, allOne, fillL, resE, tupled, ↓reduceIte, Nat.reduceEqDiff, Int.reduceEq, Int.reduceLT, Int.reduceLE, Nat.reduceAdd, Nat.reduceMul, Nat.reduceLT, Nat.reduceLeDiff, reduceCtorEq, runG_un, kdd, kemp, bv_streq, bs_toList, hx, n1, j5, j3, Int.toNat_zero, i1, lenS, Nat.le_refl, Nat.add_sub_cancel, purify, unownT, unown, AV.hf, hfL, hf_strA]
    exact ⟨_, rfl, s2, t2, j2, j3, j4, rfl⟩
  · rw [if_neg f3]
    simp (disch := omega) only [wk, avalE, aactE, evPE, boundE, asNat, bv_seql cellsEq_ii, bv_sneqd cellsEq_ii, readC, allOne, fillL, resE, tupled, ↓reduceIte, Nat.reduceEqDiff, Int.reduceEq, Int.reduceLT, Int.reduceLE, Nat.reduceAdd, Nat.reduceMul, Nat.reduceLT, Nat.reduceLeDiff, reduceCtorEq, runG_un, kdd, kemp, bv_streq, bs_toList, hx, n1, rd2, Int.toNat_zero, i1, lenS, Nat.le_refl, Nat.add_sub_cancel, purify, unownT, unown, AV.hf, hfL, hf_strA, Tk.hf]
    exact ⟨_, rfl, 0, .z, fun h => absurd rfl h, rfl, fun h => absurd rfl h, rfl⟩
/-- A walker, answered once by places. -/
def stepM (l : List Pl) (w : Wk) : Wk := match w.parts with
  | [] => w
  | p :: _ => match findM l w.at_ p with
    | some f => giveM w f
    | none => missM w
/-- How it ends that is answered by places. -/
inductive Goes (l : List Pl) : Wk → Wd → Prop
  | fin {w : Wk} {x : Wd} : w.fin = some x → Goes l w x
  | step {w : Wk} {x : Wd} : w.fin = none → Goes l (stepM l w) x → Goes l w x
/-- It is over, or behind n answers. -/
def Live (w : Wk) (n : Nat) : Prop := w.fin.isSome = true ∨ (Asking w ∧ mu w ≤ n)
def Few (l : List Pl) : Prop := ∀ x ∈ l, x.is.target.length ≤ 112
theorem find_few {l : List Pl} (hl : Few l) {d : Int} {n : List UInt8} {f : Fnd} (hf : findM l d n = some f) : f.target.length ≤ 112 := by
  induction l with
  | nil => cases hf
  | cons x r ih =>
    rw [findM] at hf
    split at hf
    · cases hf; exact hl x (List.mem_cons_self ..)
    · exact ih (fun y hy => hl y (List.mem_cons_of_mem _ hy)) hf
theorem stepM_live {l : List Pl} (hl : Few l) {w : Wk} (h : Asking w) {n : Nat} (hm : mu w ≤ n + 1) : Live (stepM l w) n := by
  unfold stepM
  split
  · rename_i e; exact absurd e h.2.1
  split
  · rename_i f hf
    rcases giveM_step w h f (find_few hl hf) with h | ⟨h1, h2⟩
    · exact .inl h
    · exact .inr ⟨h1, by omega⟩
  · exact .inl (missM_fin w)
theorem mu_pos {w : Wk} (h : Asking w) : 1 ≤ mu w := by
  obtain ⟨_, h, _, _⟩ := h
  cases e : w.parts with
  | nil => exact absurd e h
  | cons p r => unfold mu; rw [e, List.length_cons]; omega
theorem goes_ex {l : List Pl} (hl : Few l) : ∀ (n : Nat) (w : Wk), Live w n → ∃ x, Goes l w x
  | 0, w, .inl h => by
    obtain ⟨x, hx⟩ := Option.isSome_iff_exists.1 h
    exact ⟨x, .fin hx⟩
  | 0, w, .inr ⟨h, hm⟩ => by have := mu_pos h; omega
  | n + 1, w, .inl h => by
    obtain ⟨x, hx⟩ := Option.isSome_iff_exists.1 h
    exact ⟨x, .fin hx⟩
  | n + 1, w, .inr ⟨h, hm⟩ => by
    obtain ⟨x, hx⟩ := goes_ex hl n _ (stepM_live hl h hm)
    exact ⟨x, .step h.1 hx⟩
theorem Goes.over {l : List Pl} {w : Wk} {x : Wd} (h : Goes l w x) (hf : w.fin.isSome = true) : w.endA = x := by
  cases h with
  | fin h => unfold Wk.endA; rw [h]; rfl
  | step h _ => rw [h] at hf; cases hf
theorem Goes.on {l : List Pl} {w : Wk} {x : Wd} (h : Goes l w x) (hf : w.fin = none) : Goes l (stepM l w) x := by
  cases h with
  | fin h => rw [h] at hf; cases hf
  | step _ h => exact h
theorem stepM_some {l : List Pl} {w : Wk} {p : List UInt8} {r : List (List UInt8)} (hp : w.parts = p :: r) {f : Fnd} (hf : findM l w.at_ p = some f) : stepM l w = giveM w f := by
  unfold stepM; rw [hp]; dsimp only; rw [hf]
theorem stepM_none {l : List Pl} {w : Wk} {p : List UInt8} {r : List (List UInt8)} (hp : w.parts = p :: r) (hf : findM l w.at_ p = none) : stepM l w = missM w := by
  unfold stepM; rw [hp]; dsimp only; rw [hf]
theorem newM_live {p : List UInt8} (ep : partsE p = 0) (fol : Bool) : Live (newM p fol) (p.length / 2 + 448) := newM_step ep fol
/-- The document's walker, in memory. -/
def RAt (H : Heap) (a : Nat) (w : Wk) : Prop := ∃ s tk, (w.parts ≠ [] → s = 1) ∧ tk.hf = true ∧ (w.parts ≠ [] → tk = .ro) ∧ H[a]? = some (.cells (rcells w (.sl s w.parts.length (encs strA w.parts) tk)))
theorem RWp.plain {w : Wk} {r : PR} (h : RWp w r) : ∃ s tk, (w.parts ≠ [] → s = 1) ∧ tk.hf = true ∧ (w.parts ≠ [] → tk = .ro) ∧ r = .plain (.agg (rcells w (.sl s w.parts.length (encs strA w.parts) tk))) := h
theorem missM_parts (w : Wk) : (missM w).parts = [] := by
  unfold missM
  split <;> rfl
theorem rmiss_w {w : Wk} (hw : w.fin = none) {q : List UInt8} {r : List (List UInt8)} (hp : w.parts = q :: r) (hl : r.length + 1 ≤ 10000) (H : Heap) :
    pcx (cbL tab) 48 [.agg [.int .i64 w.at_, .sl 1 (r.length + 1) (.str (bs q) :: encs strA r) .ro, .int .i64 w.links, .bool w.follow, .bool false, .int .i64 0, .int .i64 0, .str (bs []), .int .i64 0, .int .i64 0]] H = some (.plain (.agg (rcells (missM w) (.sl 0 0 [] .z)))) := by
  obtain ⟨at_, l, links, fol, fin⟩ := w
  dsimp only at hw hp
  subst hw hp
  exact rmiss_px (q :: r) (by rw [List.length_cons]; omega) 1 (fun _ => rfl) .ro rfl H
theorem rgive_w {w : Wk} (hw : w.fin = none) {q : List UInt8} {r : List (List UInt8)} (hp : w.parts = q :: r) (hl : r.length ≤ 6000) (hk : 0 ≤ w.links ∧ w.links ≤ 100) (f : Fnd) (htl : f.target.length ≤ 4000) :
    ∃ s tk, ((giveM w f).parts ≠ [] → s = 1) ∧ tk.hf = true ∧ ((giveM w f).parts ≠ [] → tk = .ro) ∧ ∀ H,
    pcx (cbL tab) 49 [.agg [.int .i64 w.at_, .sl 1 (r.length + 1) (.str (bs q) :: encs strA r) .ro, .int .i64 w.links, .bool w.follow, .bool false, .int .i64 0, .int .i64 0, .str (bs []), .int .i64 0, .int .i64 0], .agg f.cells] H = some (.plain (.agg (rcells (giveM w f) (.sl s (giveM w f).parts.length (encs strA (giveM w f).parts) tk)))) := by
  obtain ⟨at_, l, links, fol, fin⟩ := w
  dsimp only at hw hp hk
  subst hw hp
  obtain ⟨qq, j1, s2, t2, j2, j3, j4, rfl⟩ := rgive_pc (at_ := at_) (links := links) (fol := fol) q r hl hk f htl
  exact ⟨s2, t2, j2, j3, j4, fun H => pcx_N rfl j1⟩
theorem rgo_no {l : List Pl} (hlen : l.length ≤ 10000) (sz : Nat) (tk : Tk) {p : List UInt8} (hp : p.length ≤ 1100) (fol : Bool) (ep : partsE p ≠ 0) (H : Heap) :
    pcx (cbL tab) 41 [.str (bs p), .bool fol, .sl sz l.length (encs placeA l) tk] H = some (.plain (.tup [.agg zeroW.cells, .int .i64 (partsE p)])) := by
  obtain ⟨u1, e1, f1⟩ := lend_sl sz l.length (encs placeA l) tk
  refine pcx_N rfl (pc_wp (fi := c41) rfl ?_ (by simp [c41]) (by decide) ?_)
  · simp only [pcOn, List.map_cons, List.map_nil, hfL, hf_lend_sl, hf_lend_int, hf_lend_bool, hf_lend_str, hfL_append, Bool.and_self, Bool.and_true, Bool.true_and, c41, hf_placeA]
  unfold c41
  rw [List.map_cons, List.map_cons, List.map_cons, List.map_nil, e1, lend_str, lend_bool]
  have rn := fun H => rnew_no (fol := fol) (show p.length ≤ 5000 by omega) ep H
  simp (disch := omega) only [wk, avalE, aactE, evPE, boundE, asNat, bv_seql cellsEq_ii, bv_sneqd cellsEq_ii, readC, allOne, fillL, resE, tupled, ↓reduceIte, Nat.reduceEqDiff, Int.reduceEq, Int.reduceLT, Int.reduceLE, Nat.reduceAdd, Nat.reduceMul, Nat.reduceLT, Nat.reduceLeDiff, reduceCtorEq, rn, ep, kemp, purify, unownT, unown, AV.hf, hfL, zeroW, Wd.cells]
theorem rgo_px {l : List Pl} (hfew : Few l) (hlen : l.length ≤ 10000) (sz : Nat) (hsz : l ≠ [] → sz = 5) (tk : Tk) {p : List UInt8} (hp : p.length ≤ 1100) (fol : Bool) (ep : partsE p = 0) {x : Wd} (hx : Goes l (newM p fol) x) (H : Heap) :
    pcx (cbL tab) 41 [.str (bs p), .bool fol, .sl sz l.length (encs placeA l) tk] H = some (.plain (.tup [.agg x.cells, .int .i64 0])) := by
  obtain ⟨u1, e1, f1⟩ := lend_sl sz l.length (encs placeA l) tk
  refine pcx_N rfl (pc_wp (fi := c41) rfl ?_ (by simp [c41]) (by decide) ?_)
  · simp only [pcOn, List.map_cons, List.map_nil, hfL, hf_lend_sl, hf_lend_int, hf_lend_bool, hf_lend_str, hfL_append, Bool.and_self, Bool.and_true, Bool.true_and, c41, hf_placeA]
  unfold c41
  rw [List.map_cons, List.map_cons, List.map_cons, List.map_nil, e1, lend_str, lend_bool]
  obtain ⟨s0, t0, n1, n2, n3, rn⟩ := rnew_px (fol := fol) (show p.length ≤ 5000 by omega) ep
  have hlv := newM_live ep fol
  generalize newM p fol = w0 at *
  have rn' : ∀ H, pcx (cbL tab) 45 [.str (bs p), .bool fol] H = some (.plain (.tup [.agg [.int .i64 w0.at_, .sl s0 w0.parts.length (encs strA w0.parts) t0, .int .i64 w0.links, .bool w0.follow, .bool w0.fin.isSome, .int .i64 w0.endA.errno, .int .i64 w0.endA.dir, .str (bs w0.endA.name), .int .i64 w0.endA.inode, .int .i64 w0.endA.kind], .int .i64 0])) := rn
  clear rn
  simp (disch := omega) only [wk, avalE, aactE, evPE, boundE, asNat, bv_seql cellsEq_ii, bv_sneqd cellsEq_ii, readC, allOne, fillL, resE, tupled, ↓reduceIte, Nat.reduceEqDiff, Int.reduceEq, Int.reduceLT, Int.reduceLE, Nat.reduceAdd, Nat.reduceMul, Nat.reduceLT, Nat.reduceLeDiff, reduceCtorEq, rn', kemp]
  refine loop_ind (fun (y : Wk × Nat) E df H => RAt H 1 y.1 ∧ Goes l y.1 x ∧ y.2 ≤ 2000 ∧ (y.1.fin.isSome = true ∨ (Asking y.1 ∧ y.2 + mu y.1 ≤ 2000)) ∧ H[0]? = some (.cells [.int .i64 0, .int .i64 0, .str (bs []), .int .i64 0, .int .i64 0]) ∧ E 2 = .sl sz l.length (encs placeA l) u1 ∧ E 6 = .ptr 0 0 ∧ E 8 = .ptr 1 0 ∧ E 10 = .int .i64 (y.2 : Nat) ∧ df = [])
    (fun y => if y.1.fin.isSome then 0 else mu y.1 + 1) (w0, 0) (by decide) (.inl rfl) ⟨⟨s0, t0, n1, n2, n3, rfl⟩, hx, Nat.zero_le _, ?_, rfl, rfl, rfl, rfl, rfl, rfl⟩ ?_
  · rcases hlv with h | ⟨h1, h2⟩
    · exact .inl h
    · exact .inr ⟨h1, by dsimp only; omega⟩
  clear rn' hx hlv n1 n2 n3
  intro ⟨w, n⟩ E df H ih hP
  obtain ⟨hW, hG, hn, hL, z0, E2, E6, E8, E10, hdf⟩ := hP
  dsimp only at hW hG hn hL E10
  subst hdf
  obtain ⟨s, t, m1, m2, m3, z1⟩ := hW
  simp only [rcells, Wd.cells, List.cons_append, List.nil_append] at z1
  have hlt := (List.getElem?_eq_some_iff.1 z1).1
  have nlt : (n : Int) < 20000 := by omega
  by_cases hfin : w.fin.isSome = true
  · have hwx := hG.over hfin
    rw [hwx, hfin] at z1
    have z2 : ∀ o, (H.set 0 o)[0]? = some o := fun o => set_eq z0
    simp (disch := omega) only [wk, avalE, aactE, evPE, boundE, asNat, bv_seql cellsEq_ii, bv_sneqd cellsEq_ii, readC, allOne, fillL, resE, tupled, ↓reduceIte, Nat.reduceEqDiff, Int.reduceEq, Int.reduceLT, Int.reduceLE, Nat.reduceAdd, Nat.reduceMul, Nat.reduceLT, Nat.reduceLeDiff, reduceCtorEq, E2, E6, E8, E10, nlt, z0, z1, z2, purify, unownT, unown, AV.hf, hfL, Wd.cells]
  rcases hL with h | ⟨hA, hm⟩
  · exact absurd h hfin
  have hA' := hA
  obtain ⟨hf, hne, hl0, hl8⟩ := hA
  have hmp := mu_pos hA'
  obtain ⟨q, r, hqr⟩ : ∃ q r, w.parts = q :: r := by
    cases h : w.parts with
    | nil => exact absurd h hne
    | cons q r => exact ⟨q, r, rfl⟩
  have hw : w = ⟨w.at_, q :: r, w.links, w.follow, none⟩ := by rw [← hqr, ← hf]
  have hlr : r.length + 1 ≤ 2000 := by have : (q :: r).length ≤ mu w := by rw [← hqr]; unfold mu; omega
                                       rw [List.length_cons] at this; omega
  obtain rfl := m1 hne
  obtain rfl := m3 hne
  have hst := hG.on hf
  have hlive := stepM_live hfew hA' (n := mu w - 1) (by omega)
  have fp := fun H => find_px l sz hsz u1 w.at_ q hlen H
  have g0 : ∀ (L : List AObj), (H ++ L)[H.length]? = L[0]? := fun L => by rw [List.getElem?_append_right (by omega)]; congr 1; omega
  have s0 : ∀ (L : List AObj) (o : AObj), (H ++ L).set H.length o = H ++ L.set 0 o := fun L o => by rw [List.set_append_right _ _ (by omega)]; congr 2; omega
  have e1 : encs strA (q :: r) = .str (bs q) :: encs strA r := rfl
  have hend : w.endA = zeroW := by unfold Wk.endA; rw [hf]; rfl
  simp only [hqr, hf, hend, e1, zeroW, Option.isSome_none, List.length_cons] at z1
  have y0 : ∀ L : List AObj, (H ++ L)[0]? = _ := fun L => (List.getElem?_append_left (by omega)).trans z0
  have y1 : ∀ L : List AObj, (H ++ L)[1]? = _ := fun L => (List.getElem?_append_left hlt).trans z1
  have y2 : ∀ (L : List AObj) o, ((H ++ L).set 1 o)[1]? = some o := fun L o => set_eq (y1 L)
  have y3 : ∀ (L : List AObj) o, ((H ++ L).set 1 o)[0]? = _ := fun L o => (set_ne (by omega)).trans (y0 L)
  cases hfd : findM l w.at_ q with
  | none =>
    simp only [hfd, Option.getD_none, Option.isSome_none, zeroF, Fnd.cells] at fp
    rw [stepM_none hqr hfd] at hst hlive
    have rm := rmiss_w hf hqr (by omega)
    have hmf := missM_fin w
    have hmp := missM_parts w
    generalize missM w = wm at *
    have n2 : (n + 1 : Nat) ≤ 2000 := by omega
    unfold rcells Wd.cells at rm
    simp only [List.cons_append, List.nil_append] at rm
    simp (disch := omega) only [wk, avalE, aactE, evPE, boundE, asNat, bv_seql cellsEq_ii, bv_sneqd cellsEq_ii, readC, allOne, fillL, resE, tupled, ↓reduceIte, Nat.reduceEqDiff, Int.reduceEq, Int.reduceLT, Int.reduceLE, Nat.reduceAdd, Nat.reduceMul, Nat.reduceLT, Nat.reduceLeDiff, reduceCtorEq, E2, E6, E8, E10, nlt, z0, z1, fp, g0, s0, y0, y1, y2, y3, rm, kemp, Int.toNat_zero]
    refine ih (wm, n + 1) _ _ _ (by simp [hmf, hf]) ⟨⟨0, .z, fun h => absurd hmp h, rfl, fun h => absurd hmp h, by rw [hmp]; exact y2 _ _⟩, hst, n2, .inl hmf, y3 _ _, by simp only [en, ↓reduceIte, Nat.reduceEqDiff, E2], by simp only [en, ↓reduceIte, Nat.reduceEqDiff, E6], by simp only [en, ↓reduceIte, Nat.reduceEqDiff, E8], by simp only [en, ↓reduceIte, Nat.reduceEqDiff], rfl⟩
  | some f =>
    simp only [hfd, Option.getD_some, Option.isSome_some] at fp
    rw [stepM_some hqr hfd] at hst hlive
    obtain ⟨s2, t2, j2, j3, j4, rg⟩ := rgive_w hf hqr (by omega) ⟨hl0, by omega⟩ f (by have := find_few hfew hfd; omega)
    generalize giveM w f = wg at *
    have n2 : (n + 1 : Nat) ≤ 2000 := by omega
    unfold rcells Wd.cells Fnd.cells at rg
    unfold Fnd.cells at fp
    simp only [List.cons_append, List.nil_append] at rg
    simp (disch := omega) only [wk, avalE, aactE, evPE, boundE, asNat, bv_seql cellsEq_ii, bv_sneqd cellsEq_ii, readC, allOne, fillL, resE, tupled, ↓reduceIte, Nat.reduceEqDiff, Int.reduceEq, Int.reduceLT, Int.reduceLE, Nat.reduceAdd, Nat.reduceMul, Nat.reduceLT, Nat.reduceLeDiff, reduceCtorEq, E2, E6, E8, E10, nlt, z0, z1, fp, g0, s0, y0, y1, y2, y3, rg, kemp, Int.toNat_zero]
    refine ih (wg, n + 1) _ _ _ ?_ ⟨⟨s2, t2, j2, j3, j4, y2 _ _⟩, hst, n2, ?_, y3 _ _, by simp only [en, ↓reduceIte, Nat.reduceEqDiff, E2], by simp only [en, ↓reduceIte, Nat.reduceEqDiff, E6], by simp only [en, ↓reduceIte, Nat.reduceEqDiff, E8], by simp only [en, ↓reduceIte, Nat.reduceEqDiff], rfl⟩
    · dsimp only
      rw [if_neg hfin]
      rcases hlive with h | ⟨_, h⟩
      · rw [if_pos h]; omega
      · split <;> omega
    · rcases hlive with h | ⟨h1, h⟩
      · exact .inl h
      · exact .inr ⟨h1, by dsimp only; omega⟩
theorem goesL_no {l : List Pl} (hlen : l.length ≤ 10000) (sz : Nat) (tk : Tk) {p : List UInt8} (hp : p.length ≤ 1100) (fol : Bool) (ep : partsE p ≠ 0) (H : Heap) :
    pcx (cbL tab) 40 [.str (bs p), .bool fol, .sl sz l.length (encs placeA l) tk] H = some (.plain (.tup [.agg zeroW.cells, .int .i64 (partsE p)])) := by
  obtain ⟨u1, e1, f1⟩ := lend_sl sz l.length (encs placeA l) tk
  refine pcx_N rfl (pc_wp (fi := c40) rfl ?_ (by simp [c40]) (by decide) ?_)
  · simp only [pcOn, List.map_cons, List.map_nil, hfL, hf_lend_sl, hf_lend_int, hf_lend_bool, hf_lend_str, hfL_append, Bool.and_self, Bool.and_true, Bool.true_and, c40, hf_placeA]
  unfold c40
  rw [List.map_cons, List.map_cons, List.map_cons, List.map_nil, e1, lend_str, lend_bool]
  have q := fun H => new_no (fol := fol) (show p.length ≤ 5000 by omega) ep H
  simp (disch := omega) only [wk, avalE, aactE, evPE, boundE, asNat, bv_seql cellsEq_ii, bv_sneqd cellsEq_ii, readC, allOne, fillL, resE, tupled, ↓reduceIte, Nat.reduceEqDiff, Int.reduceEq, Int.reduceLT, Int.reduceLE, Nat.reduceAdd, Nat.reduceMul, Nat.reduceLT, Nat.reduceLeDiff, reduceCtorEq, kemp, q, num17_px, ep, in_none, runE_none ll_none, in_Asks, runE_none ll_Asks, in_Give, runE_none ll_Give, in_Miss, runE_none ll_Miss, in_Done, runE_none ll_Done, in_Copy, runE_none ll_Copy, in_on, runE_none ll_on, in_asked, runE_none ll_asked, in_into, runE_none ll_into, in_through, runE_none ll_through, in_ends, runE_none ll_ends, in_New, runE_none ll_New, in_same, runE_none ll_same, purify, unownT, unown, AV.hf, hfL, zeroW, Wd.cells]
theorem goesL_px {l : List Pl} (hfew : Few l) (hlen : l.length ≤ 10000) (sz : Nat) (hsz : l ≠ [] → sz = 5) (tk : Tk) {p : List UInt8} (hp : p.length ≤ 1100) (fol : Bool) (ep : partsE p = 0) {x : Wd} (hx : Goes l (newM p fol) x) (H : Heap) :
    pcx (cbL tab) 40 [.str (bs p), .bool fol, .sl sz l.length (encs placeA l) tk] H = some (.plain (.tup [.agg x.cells, .int .i64 0])) := by
  obtain ⟨u1, e1, f1⟩ := lend_sl sz l.length (encs placeA l) tk
  refine pcx_N rfl (pc_wp (fi := c40) rfl ?_ (by simp [c40]) (by decide) ?_)
  · simp only [pcOn, List.map_cons, List.map_nil, hfL, hf_lend_sl, hf_lend_int, hf_lend_bool, hf_lend_str, hfL_append, Bool.and_self, Bool.and_true, Bool.true_and, c40, hf_placeA]
  unfold c40
  rw [List.map_cons, List.map_cons, List.map_cons, List.map_nil, e1, lend_str, lend_bool]
  obtain ⟨H0, q1, q2, q3⟩ := new_ic (fol := fol) (show p.length ≤ 5000 by omega) ep [AObj.cells [.int .i64 0, .int .i64 0, .str (bs []), .int .i64 0, .int .i64 0]]
  simp only [List.length_cons, List.length_nil, Nat.zero_add] at q1 q2 q3
  have z0 := q3.2 0 _ (by omega) rfl
  have hlv := newM_live ep fol
  simp (disch := omega) only [wk, avalE, aactE, evPE, boundE, asNat, bv_seql cellsEq_ii, bv_sneqd cellsEq_ii, readC, allOne, fillL, resE, tupled, ↓reduceIte, Nat.reduceEqDiff, Int.reduceEq, Int.reduceLT, Int.reduceLE, Nat.reduceAdd, Nat.reduceMul, Nat.reduceLT, Nat.reduceLeDiff, reduceCtorEq, kemp, q1, num17_px, in_none, runE_none ll_none, in_Asks, runE_none ll_Asks, in_Give, runE_none ll_Give, in_Miss, runE_none ll_Miss, in_Done, runE_none ll_Done, in_Copy, runE_none ll_Copy, in_on, runE_none ll_on, in_asked, runE_none ll_asked, in_into, runE_none ll_into, in_through, runE_none ll_through, in_ends, runE_none ll_ends, in_New, runE_none ll_New, in_same, runE_none ll_same]
  refine loop_ind (fun (y : Wk × Nat) E df H => Wat H 1 y.1 ∧ Goes l y.1 x ∧ y.2 ≤ 2000 ∧ (y.1.fin.isSome = true ∨ (Asking y.1 ∧ y.2 + mu y.1 ≤ 2000)) ∧ H[0]? = some (.cells [.int .i64 0, .int .i64 0, .str (bs []), .int .i64 0, .int .i64 0]) ∧ E 2 = .sl sz l.length (encs placeA l) u1 ∧ E 6 = .ptr 0 0 ∧ E 8 = .ptr 1 0 ∧ E 10 = .int .i64 (y.2 : Nat) ∧ df = [])
    (fun y => if y.1.fin.isSome then 0 else mu y.1 + 1) (newM p fol, 0) (by decide) (.inl rfl) ⟨q2, hx, Nat.zero_le _, ?_, z0, rfl, rfl, rfl, rfl, rfl⟩ ?_
  · rcases hlv with h | ⟨h1, h2⟩
    · exact .inl h
    · exact .inr ⟨h1, by dsimp only; omega⟩
  clear q1 q2 q3 H0 z0 hlv hx
  intro ⟨w, n⟩ E df H ih hP
  obtain ⟨hW, hG, hn, hL, z0, E2, E6, E8, E10, hdf⟩ := hP
  dsimp only at hW hG hn hL E10
  subst hdf
  have n0 : (n : Int) < 20000 := by omega
  have hlt := (List.getElem?_eq_some_iff.1 z0).1
  by_cases hfin : w.fin.isSome = true
  · have ao := asks_over hW hfin
    have dn := done_ic hW
    have hwx := hG.over hfin
    rw [hfin, hwx] at dn
    have g0 : ∀ (L : List AObj), (H ++ L)[H.length]? = L[0]? := fun L => by rw [List.getElem?_append_right (by omega)]; congr 1; omega
    have g1 : ∀ a b : AObj, (H ++ [a] ++ [b])[H.length + 1]? = some b := fun a b => by rw [List.append_assoc, List.getElem?_append_right (by omega), show H.length + 1 - H.length = 1 by omega]; rfl
    have g2 : ∀ a b c : AObj, (H ++ [a] ++ [b]).set (H.length + 1) c = H ++ [a] ++ [c] := fun a b c => by rw [List.append_assoc, List.set_append_right _ _ (by omega), show H.length + 1 - H.length = 1 by omega, List.append_assoc]; rfl
    have g3 := fun a b : AObj => (show (H ++ [a] ++ [b])[0]? = H[0]? by rw [List.append_assoc, List.getElem?_append_left hlt]).trans z0
    have g4 : ∀ (a b c : AObj), ((H ++ [a] ++ [b]).set 0 c)[0]? = some c := fun a b c => set_eq (g3 a b)
    unfold Wd.cells at dn
    simp (disch := omega) only [wk, avalE, aactE, evPE, boundE, asNat, bv_seql cellsEq_ii, bv_sneqd cellsEq_ii, readC, allOne, fillL, resE, tupled, ↓reduceIte, Nat.reduceEqDiff, Int.reduceEq, Int.reduceLT, Int.reduceLE, Nat.reduceAdd, Nat.reduceMul, Nat.reduceLT, Nat.reduceLeDiff, reduceCtorEq, E2, E6, E8, E10, n0, ao, dn, kemp, g0, g1, g2, g3, g4, in_none, runE_none ll_none, in_Asks, runE_none ll_Asks, in_Give, runE_none ll_Give, in_Miss, runE_none ll_Miss, in_Done, runE_none ll_Done, in_Copy, runE_none ll_Copy, in_on, runE_none ll_on, in_asked, runE_none ll_asked, in_into, runE_none ll_into, in_through, runE_none ll_through, in_ends, runE_none ll_ends, in_New, runE_none ll_New, in_same, runE_none ll_same, purify, unownT, unown, AV.hf, hfL]
    rfl
  rcases hL with h | ⟨hA, hm⟩
  · exact absurd h hfin
  have hA' := hA
  obtain ⟨hf, hne, hl0, hl8⟩ := hA
  have hmp := mu_pos hA'
  obtain ⟨q, r, hqr⟩ : ∃ q r, w.parts = q :: r := by
    cases h : w.parts with
    | nil => exact absurd h hne
    | cons q r => exact ⟨q, r, rfl⟩
  have hlr : w.parts.length ≤ 2000 := by have : w.parts.length ≤ mu w := by unfold mu; omega
                                         omega
  have hst := hG.on hf
  have hlive := stepM_live hfew hA' (n := mu w - 1) (by omega)
  have ai := asks_ic hW hf hqr
  have fp := fun H => find_px l sz hsz u1 w.at_ q hlen H
  have g0 : ∀ (L : List AObj), (H ++ L)[H.length]? = L[0]? := fun L => by rw [List.getElem?_append_right (by omega)]; congr 1; omega
  have s0 : ∀ (L : List AObj) (o : AObj), (H ++ L).set H.length o = H ++ L.set 0 o := fun L o => by rw [List.set_append_right _ _ (by omega)]; congr 2; omega
  have z1 : ∀ L : List AObj, (H ++ L)[0]? = _ := fun L => (List.getElem?_append_left hlt).trans z0
  cases hfd : findM l w.at_ q with
  | none =>
    simp only [hfd, Option.getD_none, Option.isSome_none, zeroF, Fnd.cells] at fp
    rw [stepM_none hqr hfd] at hst hlive
    obtain ⟨H2, m1, m2, m3⟩ := miss_ic (hW.app [.cells [.int .i64 0, .int .i64 0, .str (bs [])]]) hf (by omega)
    simp (disch := omega) only [wk, avalE, aactE, evPE, boundE, asNat, bv_seql cellsEq_ii, bv_sneqd cellsEq_ii, readC, allOne, fillL, resE, tupled, ↓reduceIte, Nat.reduceEqDiff, Int.reduceEq, Int.reduceLT, Int.reduceLE, Nat.reduceAdd, Nat.reduceMul, Nat.reduceLT, Nat.reduceLeDiff, reduceCtorEq, E2, E6, E8, E10, n0, ai, fp, g0, s0, kemp, m1, in_none, runE_none ll_none, in_Asks, runE_none ll_Asks, in_Give, runE_none ll_Give, in_Miss, runE_none ll_Miss, in_Done, runE_none ll_Done, in_Copy, runE_none ll_Copy, in_on, runE_none ll_on, in_asked, runE_none ll_asked, in_into, runE_none ll_into, in_through, runE_none ll_through, in_ends, runE_none ll_ends, in_New, runE_none ll_New, in_same, runE_none ll_same]
    refine ih (missM w, n + 1) _ _ _ (by simp [missM_fin, hf]) ⟨m2, hst, by dsimp only; omega, .inl (missM_fin w), m3.2 _ _ (by omega) (z1 _), by simp only [en, ↓reduceIte, Nat.reduceEqDiff, E2], by simp only [en, ↓reduceIte, Nat.reduceEqDiff, E6], by simp only [en, ↓reduceIte, Nat.reduceEqDiff, E8], by simp only [en, ↓reduceIte, Nat.reduceEqDiff], rfl⟩
  | some f =>
    simp only [hfd, Option.getD_some, Option.isSome_some] at fp
    rw [stepM_some hqr hfd] at hst hlive
    obtain ⟨H2, m1, m2, m3⟩ := give_ic (hW.app [.cells f.cells]) hf f (fun _ => by have := find_few hfew hfd; omega) (by omega) ⟨hl0, by omega⟩ hne
    unfold Fnd.cells at fp m1
    simp (disch := omega) only [wk, avalE, aactE, evPE, boundE, asNat, bv_seql cellsEq_ii, bv_sneqd cellsEq_ii, readC, allOne, fillL, resE, tupled, ↓reduceIte, Nat.reduceEqDiff, Int.reduceEq, Int.reduceLT, Int.reduceLE, Nat.reduceAdd, Nat.reduceMul, Nat.reduceLT, Nat.reduceLeDiff, reduceCtorEq, E2, E6, E8, E10, n0, ai, fp, g0, s0, kemp, m1, in_none, runE_none ll_none, in_Asks, runE_none ll_Asks, in_Give, runE_none ll_Give, in_Miss, runE_none ll_Miss, in_Done, runE_none ll_Done, in_Copy, runE_none ll_Copy, in_on, runE_none ll_on, in_asked, runE_none ll_asked, in_into, runE_none ll_into, in_through, runE_none ll_through, in_ends, runE_none ll_ends, in_New, runE_none ll_New, in_same, runE_none ll_same]
    refine ih (giveM w f, n + 1) _ _ _ ?_ ⟨m2, hst, by dsimp only; omega, ?_, m3.2 _ _ (by omega) (z1 _), by simp only [en, ↓reduceIte, Nat.reduceEqDiff, E2], by simp only [en, ↓reduceIte, Nat.reduceEqDiff, E6], by simp only [en, ↓reduceIte, Nat.reduceEqDiff, E8], by simp only [en, ↓reduceIte, Nat.reduceEqDiff], rfl⟩
    · dsimp only
      rw [if_neg hfin]
      rcases hlive with h | ⟨_, h⟩
      · rw [if_pos h]; omega
      · split <;> omega
    · rcases hlive with h | ⟨h1, h⟩
      · exact .inl h
      · exact .inr ⟨h1, by dsimp only; omega⟩
def smallL : List Pl := [⟨1, [97], ⟨2, 2, []⟩⟩, ⟨1, [108], ⟨4, 3, [97]⟩⟩, ⟨2, [98], ⟨3, 1, []⟩⟩, ⟨2, [46, 46], ⟨1, 2, []⟩⟩]
theorem small_px (H : Heap) : pcx (cbL tab) 44 [] H = some (.plain (.sl 5 4 (encs placeA smallL) .ro)) := pcx_N rfl (cbL_pc.2 ⟨6, by kernel_rfl⟩)
theorem small_few : Few smallL := by
  intro x hx
  simp only [smallL, List.mem_cons, List.not_mem_nil, or_false] at hx
  rcases hx with rfl | rfl | rfl | rfl <;> decide
/-- What a function tells of names: what places tell. -/
def Tells (l : List Pl) (g : FuncId) : Prop := ∀ (d : Int) (n : List UInt8) (H : Heap), pcx (cbL tab) g [.int .i64 d, .str (bs n)] H = some (.plain (.tup [.agg ((findM l d n).getD zeroF).cells, .bool (findM l d n).isSome]))
theorem told_px : Tells smallL 43 := by
  intro d n H
  refine pcx_N rfl (pc_wp (fi := c43) rfl rfl (by simp [c43]) (by decide) ?_)
  unfold c43
  rw [List.map_cons, List.map_cons, List.map_nil, lend_int, lend_str]
  have fp : ∀ H, pcx (cbL tab) 36 [.sl 5 4 (encs placeA smallL) .ro, .int .i64 d, .str (bs n)] H = _ := fun H => find_px smallL 5 (fun _ => rfl) .ro d n (by decide) H
  unfold Fnd.cells at fp ⊢
  generalize findM smallL d n = o at *
  simp (disch := omega) only [wk, avalE, aactE, evPE, boundE, asNat, bv_seql cellsEq_ii, bv_sneqd cellsEq_ii, readC, allOne, fillL, resE, tupled, ↓reduceIte, Nat.reduceEqDiff, Int.reduceEq, Int.reduceLT, Int.reduceLE, Nat.reduceAdd, Nat.reduceMul, Nat.reduceLT, Nat.reduceLeDiff, reduceCtorEq, small_px, fp, kemp, purify, unownT, unown, AV.hf, hfL]
theorem nil_px : Tells [] 73 := by
  intro d n H
  refine pcx_N rfl (pc_wp (fi := c73) rfl rfl (by simp [c73]) (by decide) ?_)
  unfold c73
  rw [List.map_cons, List.map_cons, List.map_nil, lend_int, lend_str]
  unfold findM Fnd.cells zeroF
  simp (disch := omega) only [wk, avalE, aactE, evPE, boundE, asNat, bv_seql cellsEq_ii, bv_sneqd cellsEq_ii, readC, allOne, fillL, resE, tupled, ↓reduceIte, Nat.reduceEqDiff, Int.reduceEq, Int.reduceLT, Int.reduceLE, Nat.reduceAdd, Nat.reduceMul, Nat.reduceLT, Nat.reduceLeDiff, reduceCtorEq, kemp, purify, unownT, unown, AV.hf, hfL, Option.getD_none, Option.isSome_none]
def goTl : ACode := (.seq (.block 0 (.loop (.block 1 (.seq (.region [⟨(.some 30), (.mv (.t 8)), .none⟩, ⟨(.some 31), (.callf 35 [(.t 30)]), .none⟩, ⟨(.some 29), (.mv (.t 31)), .none⟩, ⟨(.some 32), (.ext (.t 29) 0), .none⟩, ⟨(.some 33), (.ext (.t 29) 1), .none⟩, ⟨(.some 34), (.ext (.t 29) 2), .none⟩, ⟨(.some 10), (.mv (.t 32)), .none⟩, ⟨(.some 11), (.mv (.t 33)), .none⟩, ⟨(.some 12), (.mv (.t 34)), .none⟩]) (.seq (.seq (.region [⟨(.some 35), (.mv (.t 12)), .none⟩, ⟨(.some 36), (.un .not (.t 35)), .none⟩]) (.cond (.t 36) (.exit 0) .skip)) (.seq (.region [⟨(.some 38), (.mv (.t 2)), .none⟩, ⟨(.some 39), (.mv (.t 10)), .none⟩, ⟨(.some 40), (.mv (.t 11)), .none⟩, ⟨(.some 41), (.callv (.t 38) [(.t 39), (.t 40)]), .none⟩, ⟨(.some 37), (.mv (.t 41)), .none⟩, ⟨(.some 42), (.ext (.t 37) 0), .none⟩, ⟨(.some 43), (.ext (.t 37) 1), .none⟩, ⟨(.some 13), (.alloc [(.int .i64 0), (.int .i64 0), (.str (ByteArray.mk (Array.mk [])))]), .none⟩, ⟨.none, (.store 3 (.t 13) (.t 42)), .none⟩, ⟨(.some 14), (.mv (.t 43)), .none⟩]) (.seq (.region [⟨(.some 44), (.mv (.t 14)), .none⟩]) (.cond (.t 44) (.region [⟨(.some 45), (.mv (.t 8)), .none⟩, ⟨(.some 46), (.load 3 true (.t 13)), .none⟩, ⟨(.some 47), (.callf 37 [(.t 45), (.t 46)]), .none⟩]) (.region [⟨(.some 48), (.mv (.t 8)), .none⟩, ⟨(.some 49), (.callf 38 [(.t 48)]), .none⟩]))))))))) (.seq (.region [⟨(.some 51), (.mv (.t 8)), .none⟩, ⟨(.some 52), (.callf 39 [(.t 51)]), .none⟩, ⟨(.some 50), (.mv (.t 52)), .none⟩, ⟨(.some 53), (.ext (.t 50) 0), .none⟩, ⟨(.some 54), (.ext (.t 50) 1), .none⟩, ⟨(.some 15), (.alloc [(.int .i64 0), (.int .i64 0), (.str (ByteArray.mk (Array.mk []))), (.int .i64 0), (.int .i64 0)]), .none⟩, ⟨.none, (.store 5 (.t 15) (.t 53)), .none⟩, ⟨(.some 16), (.mv (.t 54)), .none⟩]) (.seq (.region [⟨(.some 55), (.load 5 true (.t 15)), .none⟩, ⟨.none, (.store 5 (.t 6) (.t 55)), .none⟩, ⟨(.some 7), (.mv (.c (.int .i64 0))), .none⟩]) .ret)))
theorem go_tail {l : List Pl} (hfew : Few l) {g : FuncId} (hg : Tells l g) {E : Env} {H : Heap} {w0 : Wk} {x : Wd} (hW : Wat H 1 w0) (hx : Goes l w0 x) (hlv : Live w0 2000) (z0 : H[0]? = some (.cells [.int .i64 0, .int .i64 0, .str (bs []), .int .i64 0, .int .i64 0])) (E2 : E 2 = .fn g []) (E6 : E 6 = .ptr 0 0) (E8 : E 8 = .ptr 1 0) :
    Ret (cbL tab) none 56 (Am.Ends tab [(.cell 6 5 true), (.tmp 7)] fun o H => purify (some (o, H)) = some (.plain (.tup [.agg x.cells, .int .i64 0]))) [.code goTl] .normal E [] H := by
  unfold goTl
  simp (disch := omega) only [wk, avalE, aactE, evPE, boundE, asNat, bv_seql cellsEq_ii, bv_sneqd cellsEq_ii, readC, allOne, fillL, resE, tupled, ↓reduceIte, Nat.reduceEqDiff, Int.reduceEq, Int.reduceLT, Int.reduceLE, Nat.reduceAdd, Nat.reduceMul, Nat.reduceLT, Nat.reduceLeDiff, reduceCtorEq]
  refine loop_ind (fun (y : Wk) E df H => Wat H 1 y ∧ Goes l y x ∧ Live y 2000 ∧ H[0]? = some (.cells [.int .i64 0, .int .i64 0, .str (bs []), .int .i64 0, .int .i64 0]) ∧ E 2 = .fn g [] ∧ E 6 = .ptr 0 0 ∧ E 8 = .ptr 1 0 ∧ df = [])
    (fun y => if y.fin.isSome then 0 else mu y + 1) w0 (by decide) (.inl rfl) ⟨hW, hx, hlv, z0, E2, E6, E8, rfl⟩ ?_
  clear hW hx hlv z0 E2 E6 E8
  intro w E df H ih hP
  obtain ⟨hW, hG, hL, z0, E2, E6, E8, hdf⟩ := hP
  subst hdf
  have hlt := (List.getElem?_eq_some_iff.1 z0).1
  by_cases hfin : w.fin.isSome = true
  · have ao := asks_over hW hfin
    have dn := done_ic hW
    have hwx := hG.over hfin
    rw [hfin, hwx] at dn
    have g1 : ∀ a b : AObj, (H ++ [a] ++ [b])[H.length + 1]? = some b := fun a b => by rw [List.append_assoc, List.getElem?_append_right (by omega), show H.length + 1 - H.length = 1 by omega]; rfl
    have g2 : ∀ a b c : AObj, (H ++ [a] ++ [b]).set (H.length + 1) c = H ++ [a] ++ [c] := fun a b c => by rw [List.append_assoc, List.set_append_right _ _ (by omega), show H.length + 1 - H.length = 1 by omega, List.append_assoc]; rfl
    have g3 := fun a b : AObj => (show (H ++ [a] ++ [b])[0]? = H[0]? by rw [List.append_assoc, List.getElem?_append_left hlt]).trans z0
    have g4 : ∀ (a b c : AObj), ((H ++ [a] ++ [b]).set 0 c)[0]? = some c := fun a b c => set_eq (g3 a b)
    unfold Wd.cells at dn ⊢
    simp (disch := omega) only [wk, avalE, aactE, evPE, boundE, asNat, bv_seql cellsEq_ii, bv_sneqd cellsEq_ii, readC, allOne, fillL, resE, tupled, ↓reduceIte, Nat.reduceEqDiff, Int.reduceEq, Int.reduceLT, Int.reduceLE, Nat.reduceAdd, Nat.reduceMul, Nat.reduceLT, Nat.reduceLeDiff, reduceCtorEq, E2, E6, E8, ao, dn, kemp, g1, g2, g3, g4, in_none, runE_none ll_none, in_Asks, runE_none ll_Asks, in_Give, runE_none ll_Give, in_Miss, runE_none ll_Miss, in_Done, runE_none ll_Done, in_Copy, runE_none ll_Copy, in_on, runE_none ll_on, in_asked, runE_none ll_asked, in_into, runE_none ll_into, in_through, runE_none ll_through, in_ends, runE_none ll_ends, in_New, runE_none ll_New, in_same, runE_none ll_same, purify, unownT, unown, AV.hf, hfL]
  rcases hL with h | ⟨hA, hm⟩
  · exact absurd h hfin
  have hA' := hA
  obtain ⟨hf, hne, hl0, hl8⟩ := hA
  have hmp := mu_pos hA'
  obtain ⟨q, r, hqr⟩ : ∃ q r, w.parts = q :: r := by
    cases h : w.parts with
    | nil => exact absurd h hne
    | cons q r => exact ⟨q, r, rfl⟩
  have hlr : w.parts.length ≤ 2000 := by have : w.parts.length ≤ mu w := by unfold mu; omega
                                         omega
  have hst := hG.on hf
  have hlive := stepM_live hfew hA' (n := mu w - 1) (by omega)
  have ai := asks_ic hW hf hqr
  have fp := fun H => hg w.at_ q H
  have g0 : ∀ (L : List AObj), (H ++ L)[H.length]? = L[0]? := fun L => by rw [List.getElem?_append_right (by omega)]; congr 1; omega
  have s0 : ∀ (L : List AObj) (o : AObj), (H ++ L).set H.length o = H ++ L.set 0 o := fun L o => by rw [List.set_append_right _ _ (by omega)]; congr 2; omega
  have z1 : ∀ L : List AObj, (H ++ L)[0]? = _ := fun L => (List.getElem?_append_left hlt).trans z0
  cases hfd : findM l w.at_ q with
  | none =>
    simp only [hfd, Option.getD_none, Option.isSome_none, zeroF, Fnd.cells] at fp
    rw [stepM_none hqr hfd] at hst hlive
    obtain ⟨H2, m1, m2, m3⟩ := miss_ic (hW.app [.cells [.int .i64 0, .int .i64 0, .str (bs [])]]) hf (by omega)
    simp (disch := omega) only [wk, avalE, aactE, evPE, boundE, asNat, bv_seql cellsEq_ii, bv_sneqd cellsEq_ii, readC, allOne, fillL, resE, tupled, ↓reduceIte, Nat.reduceEqDiff, Int.reduceEq, Int.reduceLT, Int.reduceLE, Nat.reduceAdd, Nat.reduceMul, Nat.reduceLT, Nat.reduceLeDiff, reduceCtorEq, E2, E6, E8, ai, fp, g0, s0, kemp, m1, in_none, runE_none ll_none, in_Asks, runE_none ll_Asks, in_Give, runE_none ll_Give, in_Miss, runE_none ll_Miss, in_Done, runE_none ll_Done, in_Copy, runE_none ll_Copy, in_on, runE_none ll_on, in_asked, runE_none ll_asked, in_into, runE_none ll_into, in_through, runE_none ll_through, in_ends, runE_none ll_ends, in_New, runE_none ll_New, in_same, runE_none ll_same]
    refine ih (missM w) _ _ _ (by simp [missM_fin, hf]) ⟨m2, hst, .inl (missM_fin w), m3.2 _ _ (by omega) (z1 _), by simp only [en, ↓reduceIte, Nat.reduceEqDiff, E2], by simp only [en, ↓reduceIte, Nat.reduceEqDiff, E6], by simp only [en, ↓reduceIte, Nat.reduceEqDiff, E8], rfl⟩
  | some f =>
    simp only [hfd, Option.getD_some, Option.isSome_some] at fp
    rw [stepM_some hqr hfd] at hst hlive
    obtain ⟨H2, m1, m2, m3⟩ := give_ic (hW.app [.cells f.cells]) hf f (fun _ => by have := find_few hfew hfd; omega) (by omega) ⟨hl0, by omega⟩ hne
    unfold Fnd.cells at fp m1
    simp (disch := omega) only [wk, avalE, aactE, evPE, boundE, asNat, bv_seql cellsEq_ii, bv_sneqd cellsEq_ii, readC, allOne, fillL, resE, tupled, ↓reduceIte, Nat.reduceEqDiff, Int.reduceEq, Int.reduceLT, Int.reduceLE, Nat.reduceAdd, Nat.reduceMul, Nat.reduceLT, Nat.reduceLeDiff, reduceCtorEq, E2, E6, E8, ai, fp, g0, s0, kemp, m1, in_none, runE_none ll_none, in_Asks, runE_none ll_Asks, in_Give, runE_none ll_Give, in_Miss, runE_none ll_Miss, in_Done, runE_none ll_Done, in_Copy, runE_none ll_Copy, in_on, runE_none ll_on, in_asked, runE_none ll_asked, in_into, runE_none ll_into, in_through, runE_none ll_through, in_ends, runE_none ll_ends, in_New, runE_none ll_New, in_same, runE_none ll_same]
    refine ih (giveM w f) _ _ _ ?_ ⟨m2, hst, ?_, m3.2 _ _ (by omega) (z1 _), by simp only [en, ↓reduceIte, Nat.reduceEqDiff, E2], by simp only [en, ↓reduceIte, Nat.reduceEqDiff, E6], by simp only [en, ↓reduceIte, Nat.reduceEqDiff, E8], rfl⟩
    · rw [if_neg hfin]
      rcases hlive with h | ⟨_, h⟩
      · rw [if_pos h]; omega
      · split <;> omega
    · rcases hlive with h | ⟨h1, h⟩
      · exact .inl h
      · exact .inr ⟨h1, by omega⟩
theorem fnil {xo yo : X} {g : FuncId} : binV .eql .func xo yo (.fn g []) .nilf = some (.bool false) := rfl
theorem nnil {xo yo : X} : binV .eql .func xo yo .nilf .nilf = some (.bool true) := rfl
theorem wgo_no {p : List UInt8} (hp : p.length ≤ 1100) (fol : Bool) (ep : partsE p ≠ 0) (a : AV) (ha : a.hf = true) (hl : lend a = a) (H : Heap) :
    pcx (cbL tab) 42 [.str (bs p), .bool fol, a] H = some (.plain (.tup [.agg zeroW.cells, .int .i64 (partsE p)])) := by
  refine pcx_N rfl (pc_wp (fi := c42) rfl ?_ (by simp [c42]) (by decide) ?_)
  · show hfL [lend _, lend _, lend _] = true
    rw [hl, lend_str, lend_bool]
    simp [hfL, AV.hf, ha]
  unfold c42
  rw [List.map_cons, List.map_cons, List.map_cons, List.map_nil, hl, lend_str, lend_bool]
  have q := fun H => new_no (fol := fol) (show p.length ≤ 5000 by omega) ep H
  simp (disch := omega) only [wk, avalE, aactE, evPE, boundE, asNat, bv_seql cellsEq_ii, bv_sneqd cellsEq_ii, readC, allOne, fillL, resE, tupled, ↓reduceIte, Nat.reduceEqDiff, Int.reduceEq, Int.reduceLT, Int.reduceLE, Nat.reduceAdd, Nat.reduceMul, Nat.reduceLT, Nat.reduceLeDiff, reduceCtorEq, kemp, q, ep, in_none, runE_none ll_none, in_Asks, runE_none ll_Asks, in_Give, runE_none ll_Give, in_Miss, runE_none ll_Miss, in_Done, runE_none ll_Done, in_Copy, runE_none ll_Copy, in_on, runE_none ll_on, in_asked, runE_none ll_asked, in_into, runE_none ll_into, in_through, runE_none ll_through, in_ends, runE_none ll_ends, in_New, runE_none ll_New, in_same, runE_none ll_same, purify, unownT, unown, AV.hf, hfL, zeroW, Wd.cells]
theorem wgo_fn {l : List Pl} (hfew : Few l) {g : FuncId} (hg : Tells l g) {p : List UInt8} (hp : p.length ≤ 1100) (fol : Bool) (ep : partsE p = 0) {x : Wd} (hx : Goes l (newM p fol) x) (H : Heap) :
    pcx (cbL tab) 42 [.str (bs p), .bool fol, .fn g []] H = some (.plain (.tup [.agg x.cells, .int .i64 0])) := by
  refine pcx_N rfl (pc_wp (fi := c42) rfl rfl (by simp [c42]) (by decide) ?_)
  show Ret (cbL tab) none 56 (Am.Ends tab [(.cell 6 5 true), (.tmp 7)] _) [.code (.seq _ (.seq _ (.seq _ (.seq _ goTl))))] .normal (argE [.str (bs p), .bool fol, .fn g []]) [] []
  obtain ⟨H0, q1, q2, q3⟩ := new_ic (fol := fol) (show p.length ≤ 5000 by omega) ep [AObj.cells [.int .i64 0, .int .i64 0, .str (bs []), .int .i64 0, .int .i64 0]]
  simp only [List.length_cons, List.length_nil, Nat.zero_add] at q1 q2 q3
  have z0 := q3.2 0 _ (by omega) rfl
  have hlv : Live (newM p fol) 2000 := (newM_live ep fol).imp id (fun h => ⟨h.1, by have := h.2; omega⟩)
  simp (disch := omega) only [wk, avalE, aactE, evPE, boundE, asNat, bv_seql cellsEq_ii, bv_sneqd cellsEq_ii, readC, allOne, fillL, resE, tupled, ↓reduceIte, Nat.reduceEqDiff, Int.reduceEq, Int.reduceLT, Int.reduceLE, Nat.reduceAdd, Nat.reduceMul, Nat.reduceLT, Nat.reduceLeDiff, reduceCtorEq, kemp, q1, fnil, in_none, runE_none ll_none, in_Asks, runE_none ll_Asks, in_Give, runE_none ll_Give, in_Miss, runE_none ll_Miss, in_Done, runE_none ll_Done, in_Copy, runE_none ll_Copy, in_on, runE_none ll_on, in_asked, runE_none ll_asked, in_into, runE_none ll_into, in_through, runE_none ll_through, in_ends, runE_none ll_ends, in_New, runE_none ll_New, in_same, runE_none ll_same]
  exact go_tail hfew hg q2 hx hlv z0 (by simp only [en, ↓reduceIte, Nat.reduceEqDiff]) (by simp only [en, ↓reduceIte, Nat.reduceEqDiff]) (by simp only [en, ↓reduceIte, Nat.reduceEqDiff])
theorem wgo_nil {p : List UInt8} (hp : p.length ≤ 1100) (fol : Bool) (ep : partsE p = 0) {x : Wd} (hx : Goes [] (newM p fol) x) (H : Heap) :
    pcx (cbL tab) 42 [.str (bs p), .bool fol, .nilf] H = some (.plain (.tup [.agg x.cells, .int .i64 0])) := by
  refine pcx_N rfl (pc_wp (fi := c42) rfl rfl (by simp [c42]) (by decide) ?_)
  show Ret (cbL tab) none 56 (Am.Ends tab [(.cell 6 5 true), (.tmp 7)] _) [.code (.seq _ (.seq _ (.seq _ (.seq _ goTl))))] .normal (argE [.str (bs p), .bool fol, .nilf]) [] []
  obtain ⟨H0, q1, q2, q3⟩ := new_ic (fol := fol) (show p.length ≤ 5000 by omega) ep [AObj.cells [.int .i64 0, .int .i64 0, .str (bs []), .int .i64 0, .int .i64 0]]
  simp only [List.length_cons, List.length_nil, Nat.zero_add] at q1 q2 q3
  have z0 := q3.2 0 _ (by omega) rfl
  have hlv : Live (newM p fol) 2000 := (newM_live ep fol).imp id (fun h => ⟨h.1, by have := h.2; omega⟩)
  simp (disch := omega) only [wk, avalE, aactE, evPE, boundE, asNat, bv_seql cellsEq_ii, bv_sneqd cellsEq_ii, readC, allOne, fillL, resE, tupled, ↓reduceIte, Nat.reduceEqDiff, Int.reduceEq, Int.reduceLT, Int.reduceLE, Nat.reduceAdd, Nat.reduceMul, Nat.reduceLT, Nat.reduceLeDiff, reduceCtorEq, kemp, q1, nnil, in_none, runE_none ll_none, in_Asks, runE_none ll_Asks, in_Give, runE_none ll_Give, in_Miss, runE_none ll_Miss, in_Done, runE_none ll_Done, in_Copy, runE_none ll_Copy, in_on, runE_none ll_on, in_asked, runE_none ll_asked, in_into, runE_none ll_into, in_through, runE_none ll_through, in_ends, runE_none ll_ends, in_New, runE_none ll_New, in_same, runE_none ll_same]
  exact go_tail (l := []) (fun x hx => by cases hx) nil_px q2 hx hlv z0 (by simp only [en, ↓reduceIte, Nat.reduceEqDiff]) (by simp only [en, ↓reduceIte, Nat.reduceEqDiff]) (by simp only [en, ↓reduceIte, Nat.reduceEqDiff])
end Go.Proofs.YtmogflndepihnaaDoor
