/- HOW A WAY ENDS; THE DOCUMENT'S Go. No condition but those stated. -/
import Derived.Test.YtmogflndepihnaaDoorXA
import Derived.Test.YtmogflndepihnaaDoorLNo
set_option linter.unusedSimpArgs false
set_option linter.unusedVariables false
set_option linter.unusedSectionVars false
namespace Go.Proofs.YtmogflndepihnaaDoor
open Go Go.Am Go.Nam Go.Wlk Go.Rec
set_option maxHeartbeats 4000000
set_option maxRecDepth 10000
/-- A walker, answered once by places. -/
def stepM (l : List Pl) (w : Wk) : Wk := match w.parts with
  | [] => w
  | p :: _ => match findM l w.at_ p with
    | some f => giveM w f
    | none => missM w
/-- How it ends that is answered by places. -/
inductive Goes (l : List Pl) : Wk → Wd → Prop
  | fin {w : Wk} {x : Wd} : w.fin = some x → Goes l w x
  | step {w : Wk} {x : Wd} : w.fin = none → Goes l (stepM l w) x → Goes l w x
/-- It is over, or behind n answers. -/
def Live (w : Wk) (n : Nat) : Prop := w.fin.isSome = true ∨ (Asking w ∧ mu w ≤ n)
def Few (l : List Pl) : Prop := ∀ x ∈ l, x.is.target.length ≤ 112
theorem find_few {l : List Pl} (hl : Few l) {d : Int} {n : List UInt8} {f : Fnd} (hf : findM l d n = some f) : f.target.length ≤ 112 := by
  induction l with
  | nil => cases hf
  | cons x r ih =>
    rw [findM] at hf
    split at hf
    · cases hf; exact hl x (List.mem_cons_self ..)
    · exact ih (fun y hy => hl y (List.mem_cons_of_mem _ hy)) hf
theorem stepM_live {l : List Pl} (hl : Few l) {w : Wk} (h : Asking w) {n : Nat} (hm : mu w ≤ n + 1) : Live (stepM l w) n := by
  unfold stepM
  split
  · rename_i e; exact absurd e h.2.1
  split
  · rename_i f hf
    rcases giveM_step w h f (find_few hl hf) with h | ⟨h1, h2⟩
    · exact .inl h
    · exact .inr ⟨h1, by omega⟩
  · exact .inl (missM_fin w)
theorem mu_pos {w : Wk} (h : Asking w) : 1 ≤ mu w := by
  obtain ⟨_, h, _, _⟩ := h
  cases e : w.parts with
  | nil => exact absurd e h
  | cons p r => unfold mu; rw [e, List.length_cons]; omega
theorem goes_ex {l : List Pl} (hl : Few l) : ∀ (n : Nat) (w : Wk), Live w n → ∃ x, Goes l w x
  | 0, w, .inl h => by
    obtain ⟨x, hx⟩ := Option.isSome_iff_exists.1 h
    exact ⟨x, .fin hx⟩
  | 0, w, .inr ⟨h, hm⟩ => by have := mu_pos h; omega
  | n + 1, w, .inl h => by
    obtain ⟨x, hx⟩ := Option.isSome_iff_exists.1 h
    exact ⟨x, .fin hx⟩
  | n + 1, w, .inr ⟨h, hm⟩ => by
    obtain ⟨x, hx⟩ := goes_ex hl n _ (stepM_live hl h hm)
    exact ⟨x, .step h.1 hx⟩
theorem Goes.over {l : List Pl} {w : Wk} {x : Wd} (h : Goes l w x) (hf : w.fin.isSome = true) : w.endA = x := by
  cases h with
  | fin h => unfold Wk.endA; rw [h]; rfl
  | step h _ => rw [h] at hf; cases hf
theorem Goes.on {l : List Pl} {w : Wk} {x : Wd} (h : Goes l w x) (hf : w.fin = none) : Goes l (stepM l w) x := by
  cases h with
  | fin h => rw [h] at hf; cases hf
  | step _ h => exact h
theorem stepM_some {l : List Pl} {w : Wk} {p : List UInt8} {r : List (List UInt8)} (hp : w.parts = p :: r) {f : Fnd} (hf : findM l w.at_ p = some f) : stepM l w = giveM w f := by
  unfold stepM; rw [hp]; dsimp only; rw [hf]
theorem stepM_none {l : List Pl} {w : Wk} {p : List UInt8} {r : List (List UInt8)} (hp : w.parts = p :: r) (hf : findM l w.at_ p = none) : stepM l w = missM w := by
  unfold stepM; rw [hp]; dsimp only; rw [hf]
theorem newM_live {p : List UInt8} (ep : partsE p = 0) (fol : Bool) : Live (newM p fol) (p.length / 2 + 448) := newM_step ep fol
/-- The document's walker, in memory. -/
def RAt (H : Heap) (a : Nat) (w : Wk) : Prop := ∃ s tk, (w.parts ≠ [] → s = 1) ∧ tk.hf = true ∧ (w.parts ≠ [] → tk = .ro) ∧ H[a]? = some (.cells (rcells w (.sl s w.parts.length (encs strA w.parts) tk)))
theorem RWp.plain {w : Wk} {r : PR} (h : RWp w r) : ∃ s tk, (w.parts ≠ [] → s = 1) ∧ tk.hf = true ∧ (w.parts ≠ [] → tk = .ro) ∧ r = .plain (.agg (rcells w (.sl s w.parts.length (encs strA w.parts) tk))) := h
theorem missM_parts (w : Wk) : (missM w).parts = [] := by
  unfold missM
  split <;> rfl
theorem rmiss_w {w : Wk} (hw : w.fin = none) {q : List UInt8} {r : List (List UInt8)} (hp : w.parts = q :: r) (hl : r.length + 1 ≤ 10000) (H : Heap) :
    pcx (cbL tab) 48 [.agg [.int .i64 w.at_, .sl 1 (r.length + 1) (.str (bs q) :: encs strA r) .ro, .int .i64 w.links, .bool w.follow, .bool false, .int .i64 0, .int .i64 0, .str (bs []), .int .i64 0, .int .i64 0]] H = some (.plain (.agg (rcells (missM w) (.sl 0 0 [] .z)))) := by
  obtain ⟨at_, l, links, fol, fin⟩ := w
  dsimp only at hw hp
  subst hw hp
  exact rmiss_px (q :: r) (by rw [List.length_cons]; omega) 1 (fun _ => rfl) .ro rfl H
theorem rgive_w {w : Wk} (hw : w.fin = none) {q : List UInt8} {r : List (List UInt8)} (hp : w.parts = q :: r) (hl : r.length ≤ 6000) (hk : 0 ≤ w.links ∧ w.links ≤ 100) (f : Fnd) (htl : f.target.length ≤ 4000) :
    ∃ s tk, ((giveM w f).parts ≠ [] → s = 1) ∧ tk.hf = true ∧ ((giveM w f).parts ≠ [] → tk = .ro) ∧ ∀ H,
    pcx (cbL tab) 49 [.agg [.int .i64 w.at_, .sl 1 (r.length + 1) (.str (bs q) :: encs strA r) .ro, .int .i64 w.links, .bool w.follow, .bool false, .int .i64 0, .int .i64 0, .str (bs []), .int .i64 0, .int .i64 0], .agg f.cells] H = some (.plain (.agg (rcells (giveM w f) (.sl s (giveM w f).parts.length (encs strA (giveM w f).parts) tk)))) := by
  obtain ⟨at_, l, links, fol, fin⟩ := w
  dsimp only at hw hp hk
  subst hw hp
  obtain ⟨qq, j1, s2, t2, j2, j3, j4, rfl⟩ := rgive_pc (at_ := at_) (links := links) (fol := fol) q r hl hk f htl
  exact ⟨s2, t2, j2, j3, j4, fun H => pcx_N rfl j1⟩
theorem rgo_no {l : List Pl} (hlen : l.length ≤ 10000) (sz : Nat) (tk : Tk) {p : List UInt8} (hp : p.length ≤ 1100) (fol : Bool) (ep : partsE p ≠ 0) (H : Heap) :
    pcx (cbL tab) 41 [.str (bs p), .bool fol, .sl sz l.length (encs placeA l) tk] H = some (.plain (.tup [.agg zeroW.cells, .int .i64 (partsE p)])) := by
  obtain ⟨u1, e1, f1⟩ := lend_sl sz l.length (encs placeA l) tk
  refine pcx_N rfl (pc_wp (fi := c41) rfl ?_ (by simp [c41]) (by decide) ?_)
  · simp only [pcOn, List.map_cons, List.map_nil, hfL, hf_lend_sl, hf_lend_int, hf_lend_bool, hf_lend_str, hfL_append, Bool.and_self, Bool.and_true, Bool.true_and, c41, hf_placeA]
  unfold c41
  rw [List.map_cons, List.map_cons, List.map_cons, List.map_nil, e1, lend_str, lend_bool]
  have rn := fun H => rnew_no (fol := fol) (show p.length ≤ 5000 by omega) ep H
  simp (disch := omega) only [wk, avalE, aactE, evPE, boundE, asNat, bv_seql cellsEq_ii, bv_sneqd cellsEq_ii, readC, allOne, fillL, resE, tupled, ↓reduceIte, Nat.reduceEqDiff, Int.reduceEq, Int.reduceLT, Int.reduceLE, Nat.reduceAdd, Nat.reduceMul, Nat.reduceLT, Nat.reduceLeDiff, reduceCtorEq, rn, ep, kemp, purify, unownT, unown, AV.hf, hfL, zeroW, Wd.cells]
theorem rgo_px {l : List Pl} (hfew : Few l) (hlen : l.length ≤ 10000) (sz : Nat) (hsz : l ≠ [] → sz = 5) (tk : Tk) {p : List UInt8} (hp : p.length ≤ 1100) (fol : Bool) (ep : partsE p = 0) {x : Wd} (hx : Goes l (newM p fol) x) (H : Heap) :
    pcx (cbL tab) 41 [.str (bs p), .bool fol, .sl sz l.length (encs placeA l) tk] H = some (.plain (.tup [.agg x.cells, .int .i64 0])) := by
  obtain ⟨u1, e1, f1⟩ := lend_sl sz l.length (encs placeA l) tk
  refine pcx_N rfl (pc_wp (fi := c41) rfl ?_ (by simp [c41]) (by decide) ?_)
  · simp only [pcOn, List.map_cons, List.map_nil, hfL, hf_lend_sl, hf_lend_int, hf_lend_bool, hf_lend_str, hfL_append, Bool.and_self, Bool.and_true, Bool.true_and, c41, hf_placeA]
  unfold c41
  rw [List.map_cons, List.map_cons, List.map_cons, List.map_nil, e1, lend_str, lend_bool]
  obtain ⟨s0, t0, n1, n2, n3, rn⟩ := rnew_px (fol := fol) (show p.length ≤ 5000 by omega) ep
  have hlv := newM_live ep fol
  generalize newM p fol = w0 at *
  have rn' : ∀ H, pcx (cbL tab) 45 [.str (bs p), .bool fol] H = some (.plain (.tup [.agg [.int .i64 w0.at_, .sl s0 w0.parts.length (encs strA w0.parts) t0, .int .i64 w0.links, .bool w0.follow, .bool w0.fin.isSome, .int .i64 w0.endA.errno, .int .i64 w0.endA.dir, .str (bs w0.endA.name), .int .i64 w0.endA.inode, .int .i64 w0.endA.kind], .int .i64 0])) := rn
  clear rn
  simp (disch := omega) only [wk, avalE, aactE, evPE, boundE, asNat, bv_seql cellsEq_ii, bv_sneqd cellsEq_ii, readC, allOne, fillL, resE, tupled, ↓reduceIte, Nat.reduceEqDiff, Int.reduceEq, Int.reduceLT, Int.reduceLE, Nat.reduceAdd, Nat.reduceMul, Nat.reduceLT, Nat.reduceLeDiff, reduceCtorEq, rn', kemp]
  refine loop_ind (fun (y : Wk × Nat) E df H => RAt H 1 y.1 ∧ Goes l y.1 x ∧ y.2 ≤ 2000 ∧ (y.1.fin.isSome = true ∨ (Asking y.1 ∧ y.2 + mu y.1 ≤ 2000)) ∧ H[0]? = some (.cells [.int .i64 0, .int .i64 0, .str (bs []), .int .i64 0, .int .i64 0]) ∧ E 2 = .sl sz l.length (encs placeA l) u1 ∧ E 6 = .ptr 0 0 ∧ E 8 = .ptr 1 0 ∧ E 10 = .int .i64 (y.2 : Nat) ∧ df = [])
    (fun y => if y.1.fin.isSome then 0 else mu y.1 + 1) (w0, 0) (by decide) (.inl rfl) ⟨⟨s0, t0, n1, n2, n3, rfl⟩, hx, Nat.zero_le _, ?_, rfl, rfl, rfl, rfl, rfl, rfl⟩ ?_
  · rcases hlv with h | ⟨h1, h2⟩
    · exact .inl h
    · exact .inr ⟨h1, by dsimp only; omega⟩
  clear rn' hx hlv n1 n2 n3
  intro ⟨w, n⟩ E df H ih hP
  obtain ⟨hW, hG, hn, hL, z0, E2, E6, E8, E10, hdf⟩ := hP
  dsimp only at hW hG hn hL E10
  subst hdf
  obtain ⟨s, t, m1, m2, m3, z1⟩ := hW
  simp only [rcells, Wd.cells, List.cons_append, List.nil_append] at z1
  have hlt := (List.getElem?_eq_some_iff.1 z1).1
  have nlt : (n : Int) < 20000 := by omega
  by_cases hfin : w.fin.isSome = true
  · have hwx := hG.over hfin
    rw [hwx, hfin] at z1
    have z2 : ∀ o, (H.set 0 o)[0]? = some o := fun o => set_eq z0
    simp (disch := omega) only [wk, avalE, aactE, evPE, boundE, asNat, bv_seql cellsEq_ii, bv_sneqd cellsEq_ii, readC, allOne, fillL, resE, tupled, ↓reduceIte, Nat.reduceEqDiff, Int.reduceEq, Int.reduceLT, Int.reduceLE, Nat.reduceAdd, Nat.reduceMul, Nat.reduceLT, Nat.reduceLeDiff, reduceCtorEq, E2, E6, E8, E10, nlt, z0, z1, z2, purify, unownT, unown, AV.hf, hfL, Wd.cells]
  rcases hL with h | ⟨hA, hm⟩
  · exact absurd h hfin
  have hA' := hA
  obtain ⟨hf, hne, hl0, hl8⟩ := hA
  have hmp := mu_pos hA'
  obtain ⟨q, r, hqr⟩ : ∃ q r, w.parts = q :: r := by
    cases h : w.parts with
    | nil => exact absurd h hne
    | cons q r => exact ⟨q, r, rfl⟩
  have hw : w = ⟨w.at_, q :: r, w.links, w.follow, none⟩ := by rw [← hqr, ← hf]
  have hlr : r.length + 1 ≤ 2000 := by have : (q :: r).length ≤ mu w := by rw [← hqr]; unfold mu; omega
                                       rw [List.length_cons] at this; omega
  obtain rfl := m1 hne
  obtain rfl := m3 hne
  have hst := hG.on hf
  have hlive := stepM_live hfew hA' (n := mu w - 1) (by omega)
  have fp := fun H => find_px l sz hsz u1 w.at_ q hlen H
  have g0 : ∀ (L : List AObj), (H ++ L)[H.length]? = L[0]? := fun L => by rw [List.getElem?_append_right (by omega)]; congr 1; omega
  have s0 : ∀ (L : List AObj) (o : AObj), (H ++ L).set H.length o = H ++ L.set 0 o := fun L o => by rw [List.set_append_right _ _ (by omega)]; congr 2; omega
  have e1 : encs strA (q :: r) = .str (bs q) :: encs strA r := rfl
  have hend : w.endA = zeroW := by unfold Wk.endA; rw [hf]; rfl
  simp only [hqr, hf, hend, e1, zeroW, Option.isSome_none, List.length_cons] at z1
  have y0 : ∀ L : List AObj, (H ++ L)[0]? = _ := fun L => (List.getElem?_append_left (by omega)).trans z0
  have y1 : ∀ L : List AObj, (H ++ L)[1]? = _ := fun L => (List.getElem?_append_left hlt).trans z1
  have y2 : ∀ (L : List AObj) o, ((H ++ L).set 1 o)[1]? = some o := fun L o => set_eq (y1 L)
  have y3 : ∀ (L : List AObj) o, ((H ++ L).set 1 o)[0]? = _ := fun L o => (set_ne (by omega)).trans (y0 L)
  cases hfd : findM l w.at_ q with
  | none =>
    simp only [hfd, Option.getD_none, Option.isSome_none, zeroF, Fnd.cells] at fp
    rw [stepM_none hqr hfd] at hst hlive
    have rm := rmiss_w hf hqr (by omega)
    have hmf := missM_fin w
    have hmp := missM_parts w
    generalize missM w = wm at *
    have n2 : (n + 1 : Nat) ≤ 2000 := by omega
    unfold rcells Wd.cells at rm
    simp only [List.cons_append, List.nil_append] at rm
    simp (disch := omega) only [wk, avalE, aactE, evPE, boundE, asNat, bv_seql cellsEq_ii, bv_sneqd cellsEq_ii, readC, allOne, fillL, resE, tupled, ↓reduceIte, Nat.reduceEqDiff, Int.reduceEq, Int.reduceLT, Int.reduceLE, Nat.reduceAdd, Nat.reduceMul, Nat.reduceLT, Nat.reduceLeDiff, reduceCtorEq, E2, E6, E8, E10, nlt, z0, z1, fp, g0, s0, y0, y1, y2, y3, rm, kemp, Int.toNat_zero]
    refine ih (wm, n + 1) _ _ _ (by simp [hmf, hf]) ⟨⟨0, .z, fun h => absurd hmp h, rfl, fun h => absurd hmp h, by rw [hmp]; exact y2 _ _⟩, hst, n2, .inl hmf, y3 _ _, by simp only [en, ↓reduceIte, Nat.reduceEqDiff, E2], by simp only [en, ↓reduceIte, Nat.reduceEqDiff, E6], by simp only [en, ↓reduceIte, Nat.reduceEqDiff, E8], by simp only [en, ↓reduceIte, Nat.reduceEqDiff], rfl⟩
  | some f =>
    simp only [hfd, Option.getD_some, Option.isSome_some] at fp
    rw [stepM_some hqr hfd] at hst hlive
    obtain ⟨s2, t2, j2, j3, j4, rg⟩ := rgive_w hf hqr (by omega) ⟨hl0, by omega⟩ f (by have := find_few hfew hfd; omega)
    generalize giveM w f = wg at *
    have n2 : (n + 1 : Nat) ≤ 2000 := by omega
    unfold rcells Wd.cells Fnd.cells at rg
    unfold Fnd.cells at fp
    simp only [List.cons_append, List.nil_append] at rg
    simp (disch := omega) only [wk, avalE, aactE, evPE, boundE, asNat, bv_seql cellsEq_ii, bv_sneqd cellsEq_ii, readC, allOne, fillL, resE, tupled, ↓reduceIte, Nat.reduceEqDiff, Int.reduceEq, Int.reduceLT, Int.reduceLE, Nat.reduceAdd, Nat.reduceMul, Nat.reduceLT, Nat.reduceLeDiff, reduceCtorEq, E2, E6, E8, E10, nlt, z0, z1, fp, g0, s0, y0, y1, y2, y3, rg, kemp, Int.toNat_zero]
    refine ih (wg, n + 1) _ _ _ ?_ ⟨⟨s2, t2, j2, j3, j4, y2 _ _⟩, hst, n2, ?_, y3 _ _, by simp only [en, ↓reduceIte, Nat.reduceEqDiff, E2], by simp only [en, ↓reduceIte, Nat.reduceEqDiff, E6], by simp only [en, ↓reduceIte, Nat.reduceEqDiff, E8], by simp only [en, ↓reduceIte, Nat.reduceEqDiff], rfl⟩
    · dsimp only
      rw [if_neg hfin]
      rcases hlive with h | ⟨_, h⟩
      · rw [if_pos h]; omega
      · split <;> omega
    · rcases hlive with h | ⟨h1, h⟩
      · exact .inl h
      · exact .inr ⟨h1, by dsimp only; omega⟩
theorem goesL_no {l : List Pl} (hlen : l.length ≤ 10000) (sz : Nat) (tk : Tk) {p : List UInt8} (hp : p.length ≤ 1100) (fol : Bool) (ep : partsE p ≠ 0) (H : Heap) :
    pcx (cbL tab) 40 [.str (bs p), .bool fol, .sl sz l.length (encs placeA l) tk] H = some (.plain (.tup [.agg zeroW.cells, .int .i64 (partsE p)])) := by
  obtain ⟨u1, e1, f1⟩ := lend_sl sz l.length (encs placeA l) tk
  refine pcx_N rfl (pc_wp (fi := c40) rfl ?_ (by simp [c40]) (by decide) ?_)
  · simp only [pcOn, List.map_cons, List.map_nil, hfL, hf_lend_sl, hf_lend_int, hf_lend_bool, hf_lend_str, hfL_append, Bool.and_self, Bool.and_true, Bool.true_and, c40, hf_placeA]
  unfold c40
  rw [List.map_cons, List.map_cons, List.map_cons, List.map_nil, e1, lend_str, lend_bool]
  have q := fun H => new_no (fol := fol) (show p.length ≤ 5000 by omega) ep H
  simp (disch := omega) only [wk, avalE, aactE, evPE, boundE, asNat, bv_seql cellsEq_ii, bv_sneqd cellsEq_ii, readC, allOne, fillL, resE, tupled, ↓reduceIte, Nat.reduceEqDiff, Int.reduceEq, Int.reduceLT, Int.reduceLE, Nat.reduceAdd, Nat.reduceMul, Nat.reduceLT, Nat.reduceLeDiff, reduceCtorEq, kemp, q, num17_px, ep, in_none, runE_none ll_none, in_Asks, runE_none ll_Asks, in_Give, runE_none ll_Give, in_Miss, runE_none ll_Miss, in_Done, runE_none ll_Done, in_Copy, runE_none ll_Copy, in_on, runE_none ll_on, in_asked, runE_none ll_asked, in_into, runE_none ll_into, in_through, runE_none ll_through, in_ends, runE_none ll_ends, in_Left, runE_none ll_Left, in_New, runE_none ll_New, in_same, runE_none ll_same, purify, unownT, unown, AV.hf, hfL, zeroW, Wd.cells]
theorem goesL_px {l : List Pl} (hfew : Few l) (hlen : l.length ≤ 10000) (sz : Nat) (hsz : l ≠ [] → sz = 5) (tk : Tk) {p : List UInt8} (hp : p.length ≤ 1100) (fol : Bool) (ep : partsE p = 0) {x : Wd} (hx : Goes l (newM p fol) x) (H : Heap) :
    pcx (cbL tab) 40 [.str (bs p), .bool fol, .sl sz l.length (encs placeA l) tk] H = some (.plain (.tup [.agg x.cells, .int .i64 0])) := by
  obtain ⟨u1, e1, f1⟩ := lend_sl sz l.length (encs placeA l) tk
  refine pcx_N rfl (pc_wp (fi := c40) rfl ?_ (by simp [c40]) (by decide) ?_)
  · simp only [pcOn, List.map_cons, List.map_nil, hfL, hf_lend_sl, hf_lend_int, hf_lend_bool, hf_lend_str, hfL_append, Bool.and_self, Bool.and_true, Bool.true_and, c40, hf_placeA]
  unfold c40
  rw [List.map_cons, List.map_cons, List.map_cons, List.map_nil, e1, lend_str, lend_bool]
  obtain ⟨H0, q1, q2, q3⟩ := new_ic (fol := fol) (show p.length ≤ 5000 by omega) ep [AObj.cells [.int .i64 0, .int .i64 0, .str (bs []), .int .i64 0, .int .i64 0]]
  simp only [List.length_cons, List.length_nil, Nat.zero_add] at q1 q2 q3
  have z0 := q3.2 0 _ (by omega) rfl
  have hlv := newM_live ep fol
  simp (disch := omega) only [wk, avalE, aactE, evPE, boundE, asNat, bv_seql cellsEq_ii, bv_sneqd cellsEq_ii, readC, allOne, fillL, resE, tupled, ↓reduceIte, Nat.reduceEqDiff, Int.reduceEq, Int.reduceLT, Int.reduceLE, Nat.reduceAdd, Nat.reduceMul, Nat.reduceLT, Nat.reduceLeDiff, reduceCtorEq, kemp, q1, num17_px, in_none, runE_none ll_none, in_Asks, runE_none ll_Asks, in_Give, runE_none ll_Give, in_Miss, runE_none ll_Miss, in_Done, runE_none ll_Done, in_Copy, runE_none ll_Copy, in_on, runE_none ll_on, in_asked, runE_none ll_asked, in_into, runE_none ll_into, in_through, runE_none ll_through, in_ends, runE_none ll_ends, in_Left, runE_none ll_Left, in_New, runE_none ll_New, in_same, runE_none ll_same]
  refine loop_ind (fun (y : Wk × Nat) E df H => Wat H 1 y.1 ∧ Goes l y.1 x ∧ y.2 ≤ 2000 ∧ (y.1.fin.isSome = true ∨ (Asking y.1 ∧ y.2 + mu y.1 ≤ 2000)) ∧ H[0]? = some (.cells [.int .i64 0, .int .i64 0, .str (bs []), .int .i64 0, .int .i64 0]) ∧ E 2 = .sl sz l.length (encs placeA l) u1 ∧ E 6 = .ptr 0 0 ∧ E 8 = .ptr 1 0 ∧ E 10 = .int .i64 (y.2 : Nat) ∧ df = [])
    (fun y => if y.1.fin.isSome then 0 else mu y.1 + 1) (newM p fol, 0) (by decide) (.inl rfl) ⟨q2, hx, Nat.zero_le _, ?_, z0, rfl, rfl, rfl, rfl, rfl⟩ ?_
  · rcases hlv with h | ⟨h1, h2⟩
    · exact .inl h
    · exact .inr ⟨h1, by dsimp only; omega⟩
  clear q1 q2 q3 H0 z0 hlv hx
  intro ⟨w, n⟩ E df H ih hP
  obtain ⟨hW, hG, hn, hL, z0, E2, E6, E8, E10, hdf⟩ := hP
  dsimp only at hW hG hn hL E10
  subst hdf
  have n0 : (n : Int) < 20000 := by omega
  have hlt := (List.getElem?_eq_some_iff.1 z0).1
  by_cases hfin : w.fin.isSome = true
  · have ao := asks_over hW hfin
    have dn := done_ic hW
    have hwx := hG.over hfin
    rw [hfin, hwx] at dn
    have g0 : ∀ (L : List AObj), (H ++ L)[H.length]? = L[0]? := fun L => by rw [List.getElem?_append_right (by omega)]; congr 1; omega
    have g1 : ∀ a b : AObj, (H ++ [a] ++ [b])[H.length + 1]? = some b := fun a b => by rw [List.append_assoc, List.getElem?_append_right (by omega), show H.length + 1 - H.length = 1 by omega]; rfl
    have g2 : ∀ a b c : AObj, (H ++ [a] ++ [b]).set (H.length + 1) c = H ++ [a] ++ [c] := fun a b c => by rw [List.append_assoc, List.set_append_right _ _ (by omega), show H.length + 1 - H.length = 1 by omega, List.append_assoc]; rfl
    have g3 := fun a b : AObj => (show (H ++ [a] ++ [b])[0]? = H[0]? by rw [List.append_assoc, List.getElem?_append_left hlt]).trans z0
    have g4 : ∀ (a b c : AObj), ((H ++ [a] ++ [b]).set 0 c)[0]? = some c := fun a b c => set_eq (g3 a b)
    unfold Wd.cells at dn
    simp (disch := omega) only [wk, avalE, aactE, evPE, boundE, asNat, bv_seql cellsEq_ii, bv_sneqd cellsEq_ii, readC, allOne, fillL, resE, tupled, ↓reduceIte, Nat.reduceEqDiff, Int.reduceEq, Int.reduceLT, Int.reduceLE, Nat.reduceAdd, Nat.reduceMul, Nat.reduceLT, Nat.reduceLeDiff, reduceCtorEq, E2, E6, E8, E10, n0, ao, dn, kemp, g0, g1, g2, g3, g4, in_none, runE_none ll_none, in_Asks, runE_none ll_Asks, in_Give, runE_none ll_Give, in_Miss, runE_none ll_Miss, in_Done, runE_none ll_Done, in_Copy, runE_none ll_Copy, in_on, runE_none ll_on, in_asked, runE_none ll_asked, in_into, runE_none ll_into, in_through, runE_none ll_through, in_ends, runE_none ll_ends, in_Left, runE_none ll_Left, in_New, runE_none ll_New, in_same, runE_none ll_same, purify, unownT, unown, AV.hf, hfL]
    rfl
  rcases hL with h | ⟨hA, hm⟩
  · exact absurd h hfin
  have hA' := hA
  obtain ⟨hf, hne, hl0, hl8⟩ := hA
  have hmp := mu_pos hA'
  obtain ⟨q, r, hqr⟩ : ∃ q r, w.parts = q :: r := by
    cases h : w.parts with
    | nil => exact absurd h hne
    | cons q r => exact ⟨q, r, rfl⟩
  have hlr : w.parts.length ≤ 2000 := by have : w.parts.length ≤ mu w := by unfold mu; omega
                                         omega
  have hst := hG.on hf
  have hlive := stepM_live hfew hA' (n := mu w - 1) (by omega)
  have ai := asks_ic hW hf hqr
  have fp := fun H => find_px l sz hsz u1 w.at_ q hlen H
  have g0 : ∀ (L : List AObj), (H ++ L)[H.length]? = L[0]? := fun L => by rw [List.getElem?_append_right (by omega)]; congr 1; omega
  have s0 : ∀ (L : List AObj) (o : AObj), (H ++ L).set H.length o = H ++ L.set 0 o := fun L o => by rw [List.set_append_right _ _ (by omega)]; congr 2; omega
  have z1 : ∀ L : List AObj, (H ++ L)[0]? = _ := fun L => (List.getElem?_append_left hlt).trans z0
  cases hfd : findM l w.at_ q with
  | none =>
    simp only [hfd, Option.getD_none, Option.isSome_none, zeroF, Fnd.cells] at fp
    rw [stepM_none hqr hfd] at hst hlive
    obtain ⟨H2, m1, m2, m3⟩ := miss_ic (hW.app [.cells [.int .i64 0, .int .i64 0, .str (bs [])]]) hf (by omega)
    simp (disch := omega) only [wk, avalE, aactE, evPE, boundE, asNat, bv_seql cellsEq_ii, bv_sneqd cellsEq_ii, readC, allOne, fillL, resE, tupled, ↓reduceIte, Nat.reduceEqDiff, Int.reduceEq, Int.reduceLT, Int.reduceLE, Nat.reduceAdd, Nat.reduceMul, Nat.reduceLT, Nat.reduceLeDiff, reduceCtorEq, E2, E6, E8, E10, n0, ai, fp, g0, s0, kemp, m1, in_none, runE_none ll_none, in_Asks, runE_none ll_Asks, in_Give, runE_none ll_Give, in_Miss, runE_none ll_Miss, in_Done, runE_none ll_Done, in_Copy, runE_none ll_Copy, in_on, runE_none ll_on, in_asked, runE_none ll_asked, in_into, runE_none ll_into, in_through, runE_none ll_through, in_ends, runE_none ll_ends, in_Left, runE_none ll_Left, in_New, runE_none ll_New, in_same, runE_none ll_same]
    refine ih (missM w, n + 1) _ _ _ (by simp [missM_fin, hf]) ⟨m2, hst, by dsimp only; omega, .inl (missM_fin w), m3.2 _ _ (by omega) (z1 _), by simp only [en, ↓reduceIte, Nat.reduceEqDiff, E2], by simp only [en, ↓reduceIte, Nat.reduceEqDiff, E6], by simp only [en, ↓reduceIte, Nat.reduceEqDiff, E8], by simp only [en, ↓reduceIte, Nat.reduceEqDiff], rfl⟩
  | some f =>
    simp only [hfd, Option.getD_some, Option.isSome_some] at fp
    rw [stepM_some hqr hfd] at hst hlive
    obtain ⟨H2, m1, m2, m3⟩ := give_ic (hW.app [.cells f.cells]) hf f (fun _ => by have := find_few hfew hfd; omega) (by omega) ⟨hl0, by omega⟩ hne
    unfold Fnd.cells at fp m1
    simp (disch := omega) only [wk, avalE, aactE, evPE, boundE, asNat, bv_seql cellsEq_ii, bv_sneqd cellsEq_ii, readC, allOne, fillL, resE, tupled, ↓reduceIte, Nat.reduceEqDiff, Int.reduceEq, Int.reduceLT, Int.reduceLE, Nat.reduceAdd, Nat.reduceMul, Nat.reduceLT, Nat.reduceLeDiff, reduceCtorEq, E2, E6, E8, E10, n0, ai, fp, g0, s0, kemp, m1, in_none, runE_none ll_none, in_Asks, runE_none ll_Asks, in_Give, runE_none ll_Give, in_Miss, runE_none ll_Miss, in_Done, runE_none ll_Done, in_Copy, runE_none ll_Copy, in_on, runE_none ll_on, in_asked, runE_none ll_asked, in_into, runE_none ll_into, in_through, runE_none ll_through, in_ends, runE_none ll_ends, in_Left, runE_none ll_Left, in_New, runE_none ll_New, in_same, runE_none ll_same]
    refine ih (giveM w f, n + 1) _ _ _ ?_ ⟨m2, hst, by dsimp only; omega, ?_, m3.2 _ _ (by omega) (z1 _), by simp only [en, ↓reduceIte, Nat.reduceEqDiff, E2], by simp only [en, ↓reduceIte, Nat.reduceEqDiff, E6], by simp only [en, ↓reduceIte, Nat.reduceEqDiff, E8], by simp only [en, ↓reduceIte, Nat.reduceEqDiff], rfl⟩
    · dsimp only
      rw [if_neg hfin]
      rcases hlive with h | ⟨_, h⟩
      · rw [if_pos h]; omega
      · split <;> omega
    · rcases hlive with h | ⟨h1, h⟩
      · exact .inl h
      · exact .inr ⟨h1, by dsimp only; omega⟩
def smallL : List Pl := [⟨1, [97], ⟨2, 2, []⟩⟩, ⟨1, [108], ⟨4, 3, [97]⟩⟩, ⟨2, [98], ⟨3, 1, []⟩⟩, ⟨2, [46, 46], ⟨1, 2, []⟩⟩]
theorem small_px (H : Heap) : pcx (cbL tab) 44 [] H = some (.plain (.sl 5 4 (encs placeA smallL) .ro)) := pcx_N rfl (cbL_pc.2 ⟨6, by kernel_rfl⟩)
theorem small_few : Few smallL := by
  intro x hx
  simp only [smallL, List.mem_cons, List.not_mem_nil, or_false] at hx
  rcases hx with rfl | rfl | rfl | rfl <;> decide
/-- What a function tells of names: what places tell. -/
def Tells (l : List Pl) (g : FuncId) : Prop := ∀ (d : Int) (n : List UInt8) (H : Heap), pcx (cbL tab) g [.int .i64 d, .str (bs n)] H = some (.plain (.tup [.agg ((findM l d n).getD zeroF).cells, .bool (findM l d n).isSome]))
theorem told_px : Tells smallL 43 := by
  intro d n H
  refine pcx_N rfl (pc_wp (fi := c43) rfl rfl (by simp [c43]) (by decide) ?_)
  unfold c43
  rw [List.map_cons, List.map_cons, List.map_nil, lend_int, lend_str]
  have fp : ∀ H, pcx (cbL tab) 36 [.sl 5 4 (encs placeA smallL) .ro, .int .i64 d, .str (bs n)] H = _ := fun H => find_px smallL 5 (fun _ => rfl) .ro d n (by decide) H
  unfold Fnd.cells at fp ⊢
  generalize findM smallL d n = o at *
  simp (disch := omega) only [wk, avalE, aactE, evPE, boundE, asNat, bv_seql cellsEq_ii, bv_sneqd cellsEq_ii, readC, allOne, fillL, resE, tupled, ↓reduceIte, Nat.reduceEqDiff, Int.reduceEq, Int.reduceLT, Int.reduceLE, Nat.reduceAdd, Nat.reduceMul, Nat.reduceLT, Nat.reduceLeDiff, reduceCtorEq, small_px, fp, kemp, purify, unownT, unown, AV.hf, hfL]
theorem nil_px : Tells [] 73 := by
  intro d n H
  refine pcx_N rfl (pc_wp (fi := c73) rfl rfl (by simp [c73]) (by decide) ?_)
  unfold c73
  rw [List.map_cons, List.map_cons, List.map_nil, lend_int, lend_str]
  unfold findM Fnd.cells zeroF
  simp (disch := omega) only [wk, avalE, aactE, evPE, boundE, asNat, bv_seql cellsEq_ii, bv_sneqd cellsEq_ii, readC, allOne, fillL, resE, tupled, ↓reduceIte, Nat.reduceEqDiff, Int.reduceEq, Int.reduceLT, Int.reduceLE, Nat.reduceAdd, Nat.reduceMul, Nat.reduceLT, Nat.reduceLeDiff, reduceCtorEq, kemp, purify, unownT, unown, AV.hf, hfL, Option.getD_none, Option.isSome_none]
def goTl : ACode := (.seq (.block 0 (.loop (.block 1 (.seq (.region [⟨(.some 30), (.mv (.t 8)), .none⟩, ⟨(.some 31), (.callf 35 [(.t 30)]), .none⟩, ⟨(.some 29), (.mv (.t 31)), .none⟩, ⟨(.some 32), (.ext (.t 29) 0), .none⟩, ⟨(.some 33), (.ext (.t 29) 1), .none⟩, ⟨(.some 34), (.ext (.t 29) 2), .none⟩, ⟨(.some 10), (.mv (.t 32)), .none⟩, ⟨(.some 11), (.mv (.t 33)), .none⟩, ⟨(.some 12), (.mv (.t 34)), .none⟩]) (.seq (.seq (.region [⟨(.some 35), (.mv (.t 12)), .none⟩, ⟨(.some 36), (.un .not (.t 35)), .none⟩]) (.cond (.t 36) (.exit 0) .skip)) (.seq (.region [⟨(.some 38), (.mv (.t 2)), .none⟩, ⟨(.some 39), (.mv (.t 10)), .none⟩, ⟨(.some 40), (.mv (.t 11)), .none⟩, ⟨(.some 41), (.callv (.t 38) [(.t 39), (.t 40)]), .none⟩, ⟨(.some 37), (.mv (.t 41)), .none⟩, ⟨(.some 42), (.ext (.t 37) 0), .none⟩, ⟨(.some 43), (.ext (.t 37) 1), .none⟩, ⟨(.some 13), (.alloc [(.int .i64 0), (.int .i64 0), (.str (ByteArray.mk (Array.mk [])))]), .none⟩, ⟨.none, (.store 3 (.t 13) (.t 42)), .none⟩, ⟨(.some 14), (.mv (.t 43)), .none⟩]) (.seq (.region [⟨(.some 44), (.mv (.t 14)), .none⟩]) (.cond (.t 44) (.region [⟨(.some 45), (.mv (.t 8)), .none⟩, ⟨(.some 46), (.load 3 true (.t 13)), .none⟩, ⟨(.some 47), (.callf 37 [(.t 45), (.t 46)]), .none⟩]) (.region [⟨(.some 48), (.mv (.t 8)), .none⟩, ⟨(.some 49), (.callf 38 [(.t 48)]), .none⟩]))))))))) (.seq (.region [⟨(.some 51), (.mv (.t 8)), .none⟩, ⟨(.some 52), (.callf 39 [(.t 51)]), .none⟩, ⟨(.some 50), (.mv (.t 52)), .none⟩, ⟨(.some 53), (.ext (.t 50) 0), .none⟩, ⟨(.some 54), (.ext (.t 50) 1), .none⟩, ⟨(.some 15), (.alloc [(.int .i64 0), (.int .i64 0), (.str (ByteArray.mk (Array.mk []))), (.int .i64 0), (.int .i64 0)]), .none⟩, ⟨.none, (.store 5 (.t 15) (.t 53)), .none⟩, ⟨(.some 16), (.mv (.t 54)), .none⟩]) (.seq (.region [⟨(.some 55), (.load 5 true (.t 15)), .none⟩, ⟨.none, (.store 5 (.t 6) (.t 55)), .none⟩, ⟨(.some 7), (.mv (.c (.int .i64 0))), .none⟩]) .ret)))
theorem go_tail {l : List Pl} (hfew : Few l) {g : FuncId} (hg : Tells l g) {E : Env} {H : Heap} {w0 : Wk} {x : Wd} (hW : Wat H 1 w0) (hx : Goes l w0 x) (hlv : Live w0 2000) (z0 : H[0]? = some (.cells [.int .i64 0, .int .i64 0, .str (bs []), .int .i64 0, .int .i64 0])) (E2 : E 2 = .fn g []) (E6 : E 6 = .ptr 0 0) (E8 : E 8 = .ptr 1 0) :
    Ret (cbL tab) none 56 (Am.Ends tab [(.cell 6 5 true), (.tmp 7)] fun o H => purify (some (o, H)) = some (.plain (.tup [.agg x.cells, .int .i64 0]))) [.code goTl] .normal E [] H := by
  unfold goTl
  simp (disch := omega) only [wk, avalE, aactE, evPE, boundE, asNat, bv_seql cellsEq_ii, bv_sneqd cellsEq_ii, readC, allOne, fillL, resE, tupled, ↓reduceIte, Nat.reduceEqDiff, Int.reduceEq, Int.reduceLT, Int.reduceLE, Nat.reduceAdd, Nat.reduceMul, Nat.reduceLT, Nat.reduceLeDiff, reduceCtorEq]
  refine loop_ind (fun (y : Wk) E df H => Wat H 1 y ∧ Goes l y x ∧ Live y 2000 ∧ H[0]? = some (.cells [.int .i64 0, .int .i64 0, .str (bs []), .int .i64 0, .int .i64 0]) ∧ E 2 = .fn g [] ∧ E 6 = .ptr 0 0 ∧ E 8 = .ptr 1 0 ∧ df = [])
    (fun y => if y.fin.isSome then 0 else mu y + 1) w0 (by decide) (.inl rfl) ⟨hW, hx, hlv, z0, E2, E6, E8, rfl⟩ ?_
  clear hW hx hlv z0 E2 E6 E8
  intro w E df H ih hP
  obtain ⟨hW, hG, hL, z0, E2, E6, E8, hdf⟩ := hP
  subst hdf
  have hlt := (List.getElem?_eq_some_iff.1 z0).1
  by_cases hfin : w.fin.isSome = true
  · have ao := asks_over hW hfin
    have dn := done_ic hW
    have hwx := hG.over hfin
    rw [hfin, hwx] at dn
    have g1 : ∀ a b : AObj, (H ++ [a] ++ [b])[H.length + 1]? = some b := fun a b => by rw [List.append_assoc, List.getElem?_append_right (by omega), show H.length + 1 - H.length = 1 by omega]; rfl
    have g2 : ∀ a b c : AObj, (H ++ [a] ++ [b]).set (H.length + 1) c = H ++ [a] ++ [c] := fun a b c => by rw [List.append_assoc, List.set_append_right _ _ (by omega), show H.length + 1 - H.length = 1 by omega, List.append_assoc]; rfl
    have g3 := fun a b : AObj => (show (H ++ [a] ++ [b])[0]? = H[0]? by rw [List.append_assoc, List.getElem?_append_left hlt]).trans z0
    have g4 : ∀ (a b c : AObj), ((H ++ [a] ++ [b]).set 0 c)[0]? = some c := fun a b c => set_eq (g3 a b)
    unfold Wd.cells at dn ⊢
    simp (disch := omega) only [wk, avalE, aactE, evPE, boundE, asNat, bv_seql cellsEq_ii, bv_sneqd cellsEq_ii, readC, allOne, fillL, resE, tupled, ↓reduceIte, Nat.reduceEqDiff, Int.reduceEq, Int.reduceLT, Int.reduceLE, Nat.reduceAdd, Nat.reduceMul, Nat.reduceLT, Nat.reduceLeDiff, reduceCtorEq, E2, E6, E8, ao, dn, kemp, g1, g2, g3, g4, in_none, runE_none ll_none, in_Asks, runE_none ll_Asks, in_Give, runE_none ll_Give, in_Miss, runE_none ll_Miss, in_Done, runE_none ll_Done, in_Copy, runE_none ll_Copy, in_on, runE_none ll_on, in_asked, runE_none ll_asked, in_into, runE_none ll_into, in_through, runE_none ll_through, in_ends, runE_none ll_ends, in_Left, runE_none ll_Left, in_New, runE_none ll_New, in_same, runE_none ll_same, purify, unownT, unown, AV.hf, hfL]
  rcases hL with h | ⟨hA, hm⟩
  · exact absurd h hfin
  have hA' := hA
  obtain ⟨hf, hne, hl0, hl8⟩ := hA
  have hmp := mu_pos hA'
  obtain ⟨q, r, hqr⟩ : ∃ q r, w.parts = q :: r := by
    cases h : w.parts with
    | nil => exact absurd h hne
    | cons q r => exact ⟨q, r, rfl⟩
  have hlr : w.parts.length ≤ 2000 := by have : w.parts.length ≤ mu w := by unfold mu; omega
                                         omega
  have hst := hG.on hf
  have hlive := stepM_live hfew hA' (n := mu w - 1) (by omega)
  have ai := asks_ic hW hf hqr
  have fp := fun H => hg w.at_ q H
  have g0 : ∀ (L : List AObj), (H ++ L)[H.length]? = L[0]? := fun L => by rw [List.getElem?_append_right (by omega)]; congr 1; omega
  have s0 : ∀ (L : List AObj) (o : AObj), (H ++ L).set H.length o = H ++ L.set 0 o := fun L o => by rw [List.set_append_right _ _ (by omega)]; congr 2; omega
  have z1 : ∀ L : List AObj, (H ++ L)[0]? = _ := fun L => (List.getElem?_append_left hlt).trans z0
  cases hfd : findM l w.at_ q with
  | none =>
    simp only [hfd, Option.getD_none, Option.isSome_none, zeroF, Fnd.cells] at fp
    rw [stepM_none hqr hfd] at hst hlive
    obtain ⟨H2, m1, m2, m3⟩ := miss_ic (hW.app [.cells [.int .i64 0, .int .i64 0, .str (bs [])]]) hf (by omega)
    simp (disch := omega) only [wk, avalE, aactE, evPE, boundE, asNat, bv_seql cellsEq_ii, bv_sneqd cellsEq_ii, readC, allOne, fillL, resE, tupled, ↓reduceIte, Nat.reduceEqDiff, Int.reduceEq, Int.reduceLT, Int.reduceLE, Nat.reduceAdd, Nat.reduceMul, Nat.reduceLT, Nat.reduceLeDiff, reduceCtorEq, E2, E6, E8, ai, fp, g0, s0, kemp, m1, in_none, runE_none ll_none, in_Asks, runE_none ll_Asks, in_Give, runE_none ll_Give, in_Miss, runE_none ll_Miss, in_Done, runE_none ll_Done, in_Copy, runE_none ll_Copy, in_on, runE_none ll_on, in_asked, runE_none ll_asked, in_into, runE_none ll_into, in_through, runE_none ll_through, in_ends, runE_none ll_ends, in_Left, runE_none ll_Left, in_New, runE_none ll_New, in_same, runE_none ll_same]
    refine ih (missM w) _ _ _ (by simp [missM_fin, hf]) ⟨m2, hst, .inl (missM_fin w), m3.2 _ _ (by omega) (z1 _), by simp only [en, ↓reduceIte, Nat.reduceEqDiff, E2], by simp only [en, ↓reduceIte, Nat.reduceEqDiff, E6], by simp only [en, ↓reduceIte, Nat.reduceEqDiff, E8], rfl⟩
  | some f =>
    simp only [hfd, Option.getD_some, Option.isSome_some] at fp
    rw [stepM_some hqr hfd] at hst hlive
    obtain ⟨H2, m1, m2, m3⟩ := give_ic (hW.app [.cells f.cells]) hf f (fun _ => by have := find_few hfew hfd; omega) (by omega) ⟨hl0, by omega⟩ hne
    unfold Fnd.cells at fp m1
    simp (disch := omega) only [wk, avalE, aactE, evPE, boundE, asNat, bv_seql cellsEq_ii, bv_sneqd cellsEq_ii, readC, allOne, fillL, resE, tupled, ↓reduceIte, Nat.reduceEqDiff, Int.reduceEq, Int.reduceLT, Int.reduceLE, Nat.reduceAdd, Nat.reduceMul, Nat.reduceLT, Nat.reduceLeDiff, reduceCtorEq, E2, E6, E8, ai, fp, g0, s0, kemp, m1, in_none, runE_none ll_none, in_Asks, runE_none ll_Asks, in_Give, runE_none ll_Give, in_Miss, runE_none ll_Miss, in_Done, runE_none ll_Done, in_Copy, runE_none ll_Copy, in_on, runE_none ll_on, in_asked, runE_none ll_asked, in_into, runE_none ll_into, in_through, runE_none ll_through, in_ends, runE_none ll_ends, in_Left, runE_none ll_Left, in_New, runE_none ll_New, in_same, runE_none ll_same]
    refine ih (giveM w f) _ _ _ ?_ ⟨m2, hst, ?_, m3.2 _ _ (by omega) (z1 _), by simp only [en, ↓reduceIte, Nat.reduceEqDiff, E2], by simp only [en, ↓reduceIte, Nat.reduceEqDiff, E6], by simp only [en, ↓reduceIte, Nat.reduceEqDiff, E8], rfl⟩
    · rw [if_neg hfin]
      rcases hlive with h | ⟨_, h⟩
      · rw [if_pos h]; omega
      · split <;> omega
    · rcases hlive with h | ⟨h1, h⟩
      · exact .inl h
      · exact .inr ⟨h1, by omega⟩
theorem fnil {xo yo : X} {g : FuncId} : binV .eql .func xo yo (.fn g []) .nilf = some (.bool false) := rfl
theorem nnil {xo yo : X} : binV .eql .func xo yo .nilf .nilf = some (.bool true) := rfl
theorem wgo_no {p : List UInt8} (hp : p.length ≤ 1100) (fol : Bool) (ep : partsE p ≠ 0) (a : AV) (ha : a.hf = true) (hl : lend a = a) (H : Heap) :
    pcx (cbL tab) 42 [.str (bs p), .bool fol, a] H = some (.plain (.tup [.agg zeroW.cells, .int .i64 (partsE p)])) := by
  refine pcx_N rfl (pc_wp (fi := c42) rfl ?_ (by simp [c42]) (by decide) ?_)
  · show hfL [lend _, lend _, lend _] = true
    rw [hl, lend_str, lend_bool]
    simp [hfL, AV.hf, ha]
  unfold c42
  rw [List.map_cons, List.map_cons, List.map_cons, List.map_nil, hl, lend_str, lend_bool]
  have q := fun H => new_no (fol := fol) (show p.length ≤ 5000 by omega) ep H
  simp (disch := omega) only [wk, avalE, aactE, evPE, boundE, asNat, bv_seql cellsEq_ii, bv_sneqd cellsEq_ii, readC, allOne, fillL, resE, tupled, ↓reduceIte, Nat.reduceEqDiff, Int.reduceEq, Int.reduceLT, Int.reduceLE, Nat.reduceAdd, Nat.reduceMul, Nat.reduceLT, Nat.reduceLeDiff, reduceCtorEq, kemp, q, ep, in_none, runE_none ll_none, in_Asks, runE_none ll_Asks, in_Give, runE_none ll_Give, in_Miss, runE_none ll_Miss, in_Done, runE_none ll_Done, in_Copy, runE_none ll_Copy, in_on, runE_none ll_on, in_asked, runE_none ll_asked, in_into, runE_none ll_into, in_through, runE_none ll_through, in_ends, runE_none ll_ends, in_Left, runE_none ll_Left, in_New, runE_none ll_New, in_same, runE_none ll_same, purify, unownT, unown, AV.hf, hfL, zeroW, Wd.cells]
theorem wgo_fn {l : List Pl} (hfew : Few l) {g : FuncId} (hg : Tells l g) {p : List UInt8} (hp : p.length ≤ 1100) (fol : Bool) (ep : partsE p = 0) {x : Wd} (hx : Goes l (newM p fol) x) (H : Heap) :
    pcx (cbL tab) 42 [.str (bs p), .bool fol, .fn g []] H = some (.plain (.tup [.agg x.cells, .int .i64 0])) := by
  refine pcx_N rfl (pc_wp (fi := c42) rfl rfl (by simp [c42]) (by decide) ?_)
  show Ret (cbL tab) none 56 (Am.Ends tab [(.cell 6 5 true), (.tmp 7)] _) [.code (.seq _ (.seq _ (.seq _ (.seq _ goTl))))] .normal (argE [.str (bs p), .bool fol, .fn g []]) [] []
  obtain ⟨H0, q1, q2, q3⟩ := new_ic (fol := fol) (show p.length ≤ 5000 by omega) ep [AObj.cells [.int .i64 0, .int .i64 0, .str (bs []), .int .i64 0, .int .i64 0]]
  simp only [List.length_cons, List.length_nil, Nat.zero_add] at q1 q2 q3
  have z0 := q3.2 0 _ (by omega) rfl
  have hlv : Live (newM p fol) 2000 := (newM_live ep fol).imp id (fun h => ⟨h.1, by have := h.2; omega⟩)
  simp (disch := omega) only [wk, avalE, aactE, evPE, boundE, asNat, bv_seql cellsEq_ii, bv_sneqd cellsEq_ii, readC, allOne, fillL, resE, tupled, ↓reduceIte, Nat.reduceEqDiff, Int.reduceEq, Int.reduceLT, Int.reduceLE, Nat.reduceAdd, Nat.reduceMul, Nat.reduceLT, Nat.reduceLeDiff, reduceCtorEq, kemp, q1, fnil, in_none, runE_none ll_none, in_Asks, runE_none ll_Asks, in_Give, runE_none ll_Give, in_Miss, runE_none ll_Miss, in_Done, runE_none ll_Done, in_Copy, runE_none ll_Copy, in_on, runE_none ll_on, in_asked, runE_none ll_asked, in_into, runE_none ll_into, in_through, runE_none ll_through, in_ends, runE_none ll_ends, in_Left, runE_none ll_Left, in_New, runE_none ll_New, in_same, runE_none ll_same]
  exact go_tail hfew hg q2 hx hlv z0 (by simp only [en, ↓reduceIte, Nat.reduceEqDiff]) (by simp only [en, ↓reduceIte, Nat.reduceEqDiff]) (by simp only [en, ↓reduceIte, Nat.reduceEqDiff])
theorem wgo_nil {p : List UInt8} (hp : p.length ≤ 1100) (fol : Bool) (ep : partsE p = 0) {x : Wd} (hx : Goes [] (newM p fol) x) (H : Heap) :
    pcx (cbL tab) 42 [.str (bs p), .bool fol, .nilf] H = some (.plain (.tup [.agg x.cells, .int .i64 0])) := by
  refine pcx_N rfl (pc_wp (fi := c42) rfl rfl (by simp [c42]) (by decide) ?_)
  show Ret (cbL tab) none 56 (Am.Ends tab [(.cell 6 5 true), (.tmp 7)] _) [.code (.seq _ (.seq _ (.seq _ (.seq _ goTl))))] .normal (argE [.str (bs p), .bool fol, .nilf]) [] []
  obtain ⟨H0, q1, q2, q3⟩ := new_ic (fol := fol) (show p.length ≤ 5000 by omega) ep [AObj.cells [.int .i64 0, .int .i64 0, .str (bs []), .int .i64 0, .int .i64 0]]
  simp only [List.length_cons, List.length_nil, Nat.zero_add] at q1 q2 q3
  have z0 := q3.2 0 _ (by omega) rfl
  have hlv : Live (newM p fol) 2000 := (newM_live ep fol).imp id (fun h => ⟨h.1, by have := h.2; omega⟩)
  simp (disch := omega) only [wk, avalE, aactE, evPE, boundE, asNat, bv_seql cellsEq_ii, bv_sneqd cellsEq_ii, readC, allOne, fillL, resE, tupled, ↓reduceIte, Nat.reduceEqDiff, Int.reduceEq, Int.reduceLT, Int.reduceLE, Nat.reduceAdd, Nat.reduceMul, Nat.reduceLT, Nat.reduceLeDiff, reduceCtorEq, kemp, q1, nnil, in_none, runE_none ll_none, in_Asks, runE_none ll_Asks, in_Give, runE_none ll_Give, in_Miss, runE_none ll_Miss, in_Done, runE_none ll_Done, in_Copy, runE_none ll_Copy, in_on, runE_none ll_on, in_asked, runE_none ll_asked, in_into, runE_none ll_into, in_through, runE_none ll_through, in_ends, runE_none ll_ends, in_Left, runE_none ll_Left, in_New, runE_none ll_New, in_same, runE_none ll_same]
  exact go_tail (l := []) (fun x hx => by cases hx) nil_px q2 hx hlv z0 (by simp only [en, ↓reduceIte, Nat.reduceEqDiff]) (by simp only [en, ↓reduceIte, Nat.reduceEqDiff]) (by simp only [en, ↓reduceIte, Nat.reduceEqDiff])
end Go.Proofs.YtmogflndepihnaaDoor
