/- HOW A WAY GOES, WHERE NOTHING IS A LINK. No condition but those stated. -/
import Derived.Test.YtmogflndepihnaaDoorW9
import Derived.Test.YtmogflndepihnaaDoorLNo
set_option linter.unusedSimpArgs false
set_option linter.unusedVariables false
set_option linter.unusedSectionVars false
namespace Go.Proofs.YtmogflndepihnaaDoor
open Go Go.Am Go.Nam Go.Wlk Go.Rec
set_option maxHeartbeats 4000000
set_option maxRecDepth 10000
def walkT (own : List Pl) : Int → List (List UInt8) → Wd
  | at_, [] => ⟨0, 0, [], at_, 2⟩
  | at_, p :: r => if dot p = true then walkT own at_ r else match findM own at_ p with
    | none => if r = [] then ⟨270, at_, p, 0, 0⟩ else ⟨270, 0, [], 0, 0⟩
    | some f => if p = [46, 46] then walkT own f.inode r else if r = [] then ⟨0, at_, p, f.inode, f.kind⟩ else if f.kind = 2 then walkT own f.inode r else ⟨271, 0, [], 0, 0⟩
theorem walkT_dots (own : List Pl) (at_ : Int) : ∀ l, walkT own at_ (l.dropWhile dot) = walkT own at_ l
  | [] => rfl
  | x :: r => by
    rw [List.dropWhile_cons]
    by_cases h : dot x = true
    · rw [if_pos h, walkT_dots own at_ r]
      conv => rhs; rw [walkT, if_pos h]
    · rw [if_neg h]
/-- What a walker comes to. -/
def Res (own : List Pl) (w : Wk) (x : Wd) : Prop := w.fin = some x ∨ (Asking w ∧ w.follow = false ∧ (∀ p r, w.parts = p :: r → dot p = false) ∧ walkT own w.at_ w.parts = x)
theorem drop_head {l : List (List UInt8)} {p : List UInt8} {r : List (List UInt8)} (h : l.dropWhile dot = p :: r) : dot p = false := by
  induction l with
  | nil => cases h
  | cons x l ih =>
    rw [List.dropWhile_cons] at h
    by_cases hx : dot x = true
    · rw [if_pos hx] at h; exact ih h
    · rw [if_neg hx] at h; cases h; simpa using hx
theorem onM_T (own : List Pl) (w : Wk) (hf : w.fin = none) (hfo : w.follow = false) (h0 : 0 ≤ w.links) (h8 : w.links ≤ 8) : Res own (onM w) (walkT own w.at_ w.parts) ∧ ((onM w).fin.isSome = true ∨ (onM w).parts.length ≤ w.parts.length) := by
  have ht := walkT_dots own w.at_ w.parts
  have hl := drop_len dot w.parts
  unfold onM
  split
  · rename_i h
    rw [h] at ht
    exact ⟨.inl (by rw [← ht]; rfl), .inl rfl⟩
  · rename_i l hne
    refine ⟨.inr ⟨⟨hf, fun e => hne e, h0, h8⟩, hfo, fun p r h => drop_head h, ht⟩, .inr hl⟩
theorem giveM_T (own : List Pl) (w : Wk) (h : Asking w) (hfo : w.follow = false) {p : List UInt8} {r : List (List UInt8)} (hp : w.parts = p :: r) (hd : dot p = false) {f : Fnd} (hf : findM own w.at_ p = some f) (hk : f.kind ≠ 3) :
    Res own (giveM w f) (walkT own w.at_ w.parts) ∧ ((giveM w f).fin.isSome = true ∨ (giveM w f).parts.length + 1 ≤ w.parts.length) := by
  obtain ⟨h1, _, h0, h8⟩ := h
  obtain ⟨at_, l, links, fol, fin⟩ := w
  dsimp only at hp hf hfo h1 h0 h8 ⊢
  subst hp h1 hfo
  have on : Res own (onM ⟨f.inode, r, links, false, none⟩) (walkT own f.inode r) ∧ ((onM ⟨f.inode, r, links, false, none⟩).fin.isSome = true ∨ (onM ⟨f.inode, r, links, false, none⟩).parts.length + 1 ≤ (p :: r).length) := by
    obtain ⟨h1, h2⟩ := onM_T own ⟨f.inode, r, links, false, none⟩ rfl rfl h0 h8
    exact ⟨h1, by rw [List.length_cons]; exact h2.imp id (fun h => by dsimp only at h; omega)⟩
  unfold giveM
  dsimp only
  rw [walkT, if_neg (show ¬ dot p = true by rw [hd]; decide), hf]
  dsimp only
  by_cases hpp : p = [46, 46]
  · rw [if_pos hpp, if_pos hpp]; exact on
  rw [if_neg hpp, if_neg hpp]
  by_cases hr : r = []
  · rw [if_pos hr, if_pos hr, if_neg (fun h => hk h.1)]
    exact ⟨.inl rfl, .inl rfl⟩
  rw [if_neg hr, if_neg hr]
  by_cases h2 : f.kind = 2
  · rw [if_pos h2, if_pos h2]; exact on
  · rw [if_neg h2, if_neg h2, if_neg hk]
    exact ⟨.inl rfl, .inl rfl⟩
theorem missM_T (own : List Pl) (w : Wk) {p : List UInt8} {r : List (List UInt8)} (hp : w.parts = p :: r) (hd : dot p = false) (hf : findM own w.at_ p = none) : Res own (missM w) (walkT own w.at_ w.parts) := by
  left
  rw [hp, walkT, if_neg (by rw [hd]; decide), hf]
  unfold missM
  rw [hp]
  cases r with
  | nil => rfl
  | cons q r => rfl
/-- The stage's theorem, where nothing is a link. -/
theorem holdsT (own : List Pl) {nm : List UInt8} (hd : dot nm = false) (h2 : nm ≠ [46, 46]) : ∀ (pre : List (List UInt8)) (at_ : Int),
    ((walkT own at_ pre).errno ≠ 0 → (walkT own at_ (pre ++ [nm])).errno = (walkT own at_ pre).errno ∧ (walkT own at_ (pre ++ [nm])).inode = 0) ∧
    ((walkT own at_ pre).errno = 0 → (walkT own at_ pre).kind ≠ 2 → (walkT own at_ (pre ++ [nm])).errno = 271) ∧
    ((walkT own at_ pre).errno = 0 → (walkT own at_ pre).kind = 2 → walkT own at_ (pre ++ [nm]) = match findM own (walkT own at_ pre).inode nm with
      | none => ⟨270, (walkT own at_ pre).inode, nm, 0, 0⟩
      | some f => ⟨0, (walkT own at_ pre).inode, nm, f.inode, f.kind⟩)
  | [], at_ => by
    have hnd : ¬ dot nm = true := by rw [hd]; decide
    rw [List.nil_append, walkT, walkT, if_neg hnd]
    refine ⟨fun h => absurd rfl h, fun _ h => absurd rfl h, fun _ _ => ?_⟩
    cases hf : findM own at_ nm with
    | none => simp only [hf, if_true]
    | some f => simp only [hf, if_neg h2, if_true]
  | p :: r, at_ => by
    have hne : ¬ (r ++ [nm] = []) := by simp
    rw [List.cons_append, walkT, walkT]
    by_cases hp : dot p = true
    · rw [if_pos hp, if_pos hp]; exact holdsT own hd h2 r at_
    rw [if_neg hp, if_neg hp]
    cases hf : findM own at_ p with
    | none =>
      dsimp only
      rw [if_neg hne]
      by_cases hr : r = []
      · rw [if_pos hr]
        exact ⟨fun _ => ⟨rfl, rfl⟩, fun h => (by simp at h), fun h => (by simp at h)⟩
      · rw [if_neg hr]
        exact ⟨fun _ => ⟨rfl, rfl⟩, fun h => (by simp at h), fun h => (by simp at h)⟩
    | some f =>
      dsimp only
      by_cases hpp : p = [46, 46]
      · rw [if_pos hpp, if_pos hpp]; exact holdsT own hd h2 r f.inode
      rw [if_neg hpp, if_neg hpp, if_neg hne]
      by_cases hr : r = []
      · subst hr
        rw [if_pos rfl]
        refine ⟨fun h => absurd rfl h, fun _ hk => ?_, fun _ hk => ?_⟩
        · rw [if_neg hk]
        · dsimp only at hk ⊢
          rw [if_pos hk]
          have := (holdsT own hd h2 [] f.inode).2.2 rfl rfl
          exact this
      rw [if_neg hr]
      by_cases hk : f.kind = 2
      · rw [if_pos hk, if_pos hk]; exact holdsT own hd h2 r f.inode
      · rw [if_neg hk, if_neg hk]
        exact ⟨fun _ => ⟨rfl, rfl⟩, fun h => (by simp at h), fun h => (by simp at h)⟩
theorem findM_mem {l : List Pl} {d : Int} {n : List UInt8} {f : Fnd} (hf : findM l d n = some f) : ∃ x ∈ l, x.is = f := by
  induction l with
  | nil => cases hf
  | cons x r ih =>
    rw [findM] at hf
    split at hf
    · cases hf; exact ⟨x, List.mem_cons_self .., rfl⟩
    · obtain ⟨y, hy, e⟩ := ih hf; exact ⟨y, List.mem_cons_of_mem _ hy, e⟩
theorem goes17_px (own : List Pl) (hno : ∀ x ∈ own, x.is.kind ≠ 3) (hlen : own.length ≤ 10000) (sz : Nat) (hsz : own ≠ [] → sz = 5) (tk : Tk) (p : List UInt8) (hp : p.length ≤ 1000) (ep : partsE p = 0) (H : Heap) :
    pcx (cbL tab) 40 [.str (bs p), .bool false, .sl sz own.length (encs placeA own) tk] H = some (.plain (.tup [.agg (walkT own 1 (cutP p)).cells, .int .i64 0])) := by
  obtain ⟨u1, e1, f1⟩ := lend_sl sz own.length (encs placeA own) tk
  refine pcx_N rfl (pc_wp (fi := c40) rfl ?_ (by simp [c40]) (by decide) ?_)
  · simp only [pcOn, List.map_cons, List.map_nil, hfL, hf_lend_sl, hf_lend_int, hf_lend_bool, hf_lend_str, hfL_append, Bool.and_self, Bool.and_true, Bool.true_and, c40, hf_placeA]
  unfold c40
  rw [List.map_cons, List.map_cons, List.map_cons, List.map_nil, e1, lend_str, lend_bool]
  obtain ⟨H0, q1, q2, q3⟩ := new_ic (fol := false) (by omega) ep [AObj.cells [.int .i64 0, .int .i64 0, .str (bs []), .int .i64 0, .int .i64 0]]
  simp only [List.length_cons, List.length_nil, Nat.zero_add] at q1 q2 q3
  have z0 := q3.2 0 _ (by omega) rfl
  have hcut : (cutP p).length ≤ 500 := by have := cut_half (partsE_ok.1 ep).2.1; omega
  obtain ⟨r1, r2⟩ := onM_T own ⟨1, cutP p, 0, false, none⟩ rfl rfl (Int.le_refl _) (by dsimp only; omega)
  simp (disch := omega) only [wk, avalE, aactE, evPE, boundE, asNat, bv_seql cellsEq_ii, bv_sneqd cellsEq_ii, readC, allOne, fillL, resE, tupled, ↓reduceIte, Nat.reduceEqDiff, Int.reduceEq, Int.reduceLT, Int.reduceLE, Nat.reduceAdd, Nat.reduceMul, Nat.reduceLT, Nat.reduceLeDiff, reduceCtorEq, kemp, q1, num17_px, in_none, runE_none ll_none, in_Asks, runE_none ll_Asks, in_Give, runE_none ll_Give, in_Miss, runE_none ll_Miss, in_Done, runE_none ll_Done, in_Copy, runE_none ll_Copy, in_on, runE_none ll_on, in_asked, runE_none ll_asked, in_into, runE_none ll_into, in_through, runE_none ll_through, in_ends, runE_none ll_ends, in_Left, runE_none ll_Left, in_New, runE_none ll_New, in_same, runE_none ll_same]
  generalize hx : walkT own 1 (cutP p) = x at *
  refine loop_ind (fun (y : Wk × Nat) E df H => Wat H 1 y.1 ∧ Res own y.1 x ∧ y.2 ≤ 1001 ∧ (y.1.fin.isSome = true ∨ y.2 + y.1.parts.length ≤ 1000) ∧ H[0]? = some (.cells [.int .i64 0, .int .i64 0, .str (bs []), .int .i64 0, .int .i64 0]) ∧ E 2 = .sl sz own.length (encs placeA own) u1 ∧ E 6 = .ptr 0 0 ∧ E 8 = .ptr 1 0 ∧ E 10 = .int .i64 (y.2 : Nat) ∧ df = [])
    (fun y => if y.1.fin.isSome then 0 else y.1.parts.length + 1) (newM p false, 0) (by decide) (.inl rfl) ⟨q2, r1, by omega, ?_, z0, rfl, rfl, rfl, rfl, rfl⟩ ?_
  · rcases r2 with h | h
    · exact .inl h
    · exact .inr (by dsimp only at h ⊢; show 0 + (newM p false).parts.length ≤ 1000; unfold newM; omega)
  clear q1 q2 q3 H0 z0 r1 r2
  intro ⟨w, n⟩ E df H ih hP
  obtain ⟨hW, hR, hn, hm, z0, E2, E6, E8, E10, hdf⟩ := hP
  dsimp only at hW hR hn hm E10
  subst hdf
  have n0 : (n : Int) < 20000 := by omega
  have hlt := (List.getElem?_eq_some_iff.1 z0).1
  by_cases hfin : w.fin.isSome = true
  · have ao := asks_over hW hfin
    have dn := done_ic hW
    have hwx : w.endA = x := by
      rcases hR with h | ⟨h, _⟩
      · unfold Wk.endA; rw [h]; rfl
      · rw [h.1] at hfin; cases hfin
    rw [hfin, hwx] at dn
    have g0 : ∀ (L : List AObj), (H ++ L)[H.length]? = L[0]? := fun L => by rw [List.getElem?_append_right (by omega)]; congr 1; omega
    have g1 : ∀ a b : AObj, (H ++ [a] ++ [b])[H.length + 1]? = some b := fun a b => by rw [List.append_assoc, List.getElem?_append_right (by omega), show H.length + 1 - H.length = 1 by omega]; rfl
    have g2 : ∀ a b c : AObj, (H ++ [a] ++ [b]).set (H.length + 1) c = H ++ [a] ++ [c] := fun a b c => by rw [List.append_assoc, List.set_append_right _ _ (by omega), show H.length + 1 - H.length = 1 by omega, List.append_assoc]; rfl
    have g3 := fun a b : AObj => (show (H ++ [a] ++ [b])[0]? = H[0]? by rw [List.append_assoc, List.getElem?_append_left hlt]).trans z0
    have g4 : ∀ (a b c : AObj), ((H ++ [a] ++ [b]).set 0 c)[0]? = some c := fun a b c => set_eq (g3 a b)
    unfold Wd.cells at dn
    simp (disch := omega) only [wk, avalE, aactE, evPE, boundE, asNat, bv_seql cellsEq_ii, bv_sneqd cellsEq_ii, readC, allOne, fillL, resE, tupled, ↓reduceIte, Nat.reduceEqDiff, Int.reduceEq, Int.reduceLT, Int.reduceLE, Nat.reduceAdd, Nat.reduceMul, Nat.reduceLT, Nat.reduceLeDiff, reduceCtorEq, E2, E6, E8, E10, n0, ao, dn, kemp, g0, g1, g2, g3, g4, in_none, runE_none ll_none, in_Asks, runE_none ll_Asks, in_Give, runE_none ll_Give, in_Miss, runE_none ll_Miss, in_Done, runE_none ll_Done, in_Copy, runE_none ll_Copy, in_on, runE_none ll_on, in_asked, runE_none ll_asked, in_into, runE_none ll_into, in_through, runE_none ll_through, in_ends, runE_none ll_ends, in_Left, runE_none ll_Left, in_New, runE_none ll_New, in_same, runE_none ll_same, purify, unownT, unown, AV.hf, hfL]
    rfl
  rcases hR with h | ⟨hA, hfo, hdot, hT⟩
  · rw [h] at hfin; exact absurd rfl hfin
  rcases hm with h | hm
  · exact absurd h hfin
  have hA' := hA
  obtain ⟨hf, hne, hl0, hl8⟩ := hA
  obtain ⟨q, r, hqr⟩ : ∃ q r, w.parts = q :: r := by
    cases h : w.parts with
    | nil => exact absurd h hne
    | cons q r => exact ⟨q, r, rfl⟩
  have hd := hdot q r hqr
  have ai := asks_ic hW hf hqr
  have fp := fun H => find_px own sz hsz u1 w.at_ q (by omega) H
  have g0 : ∀ (L : List AObj), (H ++ L)[H.length]? = L[0]? := fun L => by rw [List.getElem?_append_right (by omega)]; congr 1; omega
  have s0 : ∀ (L : List AObj) (o : AObj), (H ++ L).set H.length o = H ++ L.set 0 o := fun L o => by rw [List.set_append_right _ _ (by omega)]; congr 2; omega
  have z1 : ∀ L : List AObj, (H ++ L)[0]? = _ := fun L => (List.getElem?_append_left hlt).trans z0
  cases hfd : findM own w.at_ q with
  | none =>
    simp only [hfd, Option.getD_none, Option.isSome_none, zeroF, Fnd.cells] at fp
    obtain ⟨H2, m1, m2, m3⟩ := miss_ic (hW.app [.cells [.int .i64 0, .int .i64 0, .str (bs [])]]) hf (by omega)
    have hres := missM_T own w hqr hd hfd
    rw [hT] at hres
    simp (disch := omega) only [wk, avalE, aactE, evPE, boundE, asNat, bv_seql cellsEq_ii, bv_sneqd cellsEq_ii, readC, allOne, fillL, resE, tupled, ↓reduceIte, Nat.reduceEqDiff, Int.reduceEq, Int.reduceLT, Int.reduceLE, Nat.reduceAdd, Nat.reduceMul, Nat.reduceLT, Nat.reduceLeDiff, reduceCtorEq, E2, E6, E8, E10, n0, ai, fp, g0, s0, kemp, m1, in_none, runE_none ll_none, in_Asks, runE_none ll_Asks, in_Give, runE_none ll_Give, in_Miss, runE_none ll_Miss, in_Done, runE_none ll_Done, in_Copy, runE_none ll_Copy, in_on, runE_none ll_on, in_asked, runE_none ll_asked, in_into, runE_none ll_into, in_through, runE_none ll_through, in_ends, runE_none ll_ends, in_Left, runE_none ll_Left, in_New, runE_none ll_New, in_same, runE_none ll_same]
    refine ih (missM w, n + 1) _ _ _ (by simp [missM_fin, hf]) ⟨m2, hres, by dsimp only; omega, .inl (missM_fin w), m3.2 _ _ (by omega) (z1 _), by simp only [en, ↓reduceIte, Nat.reduceEqDiff, E2], by simp only [en, ↓reduceIte, Nat.reduceEqDiff, E6], by simp only [en, ↓reduceIte, Nat.reduceEqDiff, E8], by simp only [en, ↓reduceIte, Nat.reduceEqDiff], rfl⟩
  | some f =>
    obtain ⟨y, hy, hyf⟩ := findM_mem hfd
    have hk3 : f.kind ≠ 3 := by rw [← hyf]; exact hno y hy
    simp only [hfd, Option.getD_some, Option.isSome_some] at fp
    obtain ⟨H2, m1, m2, m3⟩ := give_ic (hW.app [.cells f.cells]) hf f (fun h => absurd h hk3) (by omega) ⟨hl0, by omega⟩ hne
    obtain ⟨hres, hst⟩ := giveM_T own w hA' hfo hqr hd hfd hk3
    rw [hT] at hres
    unfold Fnd.cells at fp m1
    simp (disch := omega) only [wk, avalE, aactE, evPE, boundE, asNat, bv_seql cellsEq_ii, bv_sneqd cellsEq_ii, readC, allOne, fillL, resE, tupled, ↓reduceIte, Nat.reduceEqDiff, Int.reduceEq, Int.reduceLT, Int.reduceLE, Nat.reduceAdd, Nat.reduceMul, Nat.reduceLT, Nat.reduceLeDiff, reduceCtorEq, E2, E6, E8, E10, n0, ai, fp, g0, s0, kemp, m1, in_none, runE_none ll_none, in_Asks, runE_none ll_Asks, in_Give, runE_none ll_Give, in_Miss, runE_none ll_Miss, in_Done, runE_none ll_Done, in_Copy, runE_none ll_Copy, in_on, runE_none ll_on, in_asked, runE_none ll_asked, in_into, runE_none ll_into, in_through, runE_none ll_through, in_ends, runE_none ll_ends, in_Left, runE_none ll_Left, in_New, runE_none ll_New, in_same, runE_none ll_same]
    refine ih (giveM w f, n + 1) _ _ _ ?_ ⟨m2, hres, by dsimp only; omega, ?_, m3.2 _ _ (by omega) (z1 _), by simp only [en, ↓reduceIte, Nat.reduceEqDiff, E2], by simp only [en, ↓reduceIte, Nat.reduceEqDiff, E6], by simp only [en, ↓reduceIte, Nat.reduceEqDiff, E8], by simp only [en, ↓reduceIte, Nat.reduceEqDiff], rfl⟩
    · dsimp only
      rw [if_neg hfin]
      rcases hst with h | h
      · rw [if_pos h]; omega
      · split <;> omega
    · rcases hst with h | h
      · exact .inl h
      · exact .inr (by dsimp only; omega)
end Go.Proofs.YtmogflndepihnaaDoor
