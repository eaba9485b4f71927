/- THE LAW WalkAsks COMES TO true. No condition but those stated. -/
import Derived.Test.YtmogflndepihnaaDoorW10
import Derived.Test.YtmogflndepihnaaDoorXB
set_option linter.unusedSimpArgs false
set_option linter.unusedVariables false
set_option linter.unusedSectionVars false
namespace Go.Proofs.YtmogflndepihnaaDoor
open Go Go.Am Go.Nam Go.Wlk Go.Rec
set_option maxHeartbeats 4000000
set_option maxRecDepth 10000
/-- An answer. -/
structure Rp where
  miss : Bool
  is : Fnd
def replyA (x : Rp) : List AV := [.bool x.miss, .int .i64 x.is.inode, .int .i64 x.is.kind, .str (bs x.is.target)]
instance : Even replyA 4 := ⟨fun _ => rfl⟩
theorem hf_replyA (l : List Rp) : hfL (encs replyA l) = true := hfL_encs (fun _ => rfl) l
theorem ok_replies {v : AV} (h : OkS (.slice [.bool, .int .i64, .int .i64, .str]) v) : ∃ (l : List Rp) (tk : Tk), v = .sl 4 l.length (encs replyA l) tk ∧ (l.length : Int) ≤ 9223372036854775807 ∧ tk.hf = true := by
  cases h with
  | slnil _ => exact ⟨[], .z, rfl, by decide, rfl⟩
  | sl _ rows hm hl hr =>
    have : ∀ rows : List (List AV), (∀ r ∈ rows, r.length = 4) → (∀ r ∈ rows, ∀ (i : Nat) (s : Sh) (v : AV), [Sh.bool, .int .i64, .int .i64, .str][i]? = some s → r[i]? = some v → OkS s v) →
        ∃ l : List Rp, rows.flatten = encs replyA l ∧ l.length = rows.length := by
      intro rows
      induction rows with
      | nil => intro _ _; exact ⟨[], rfl, rfl⟩
      | cons r rows ih =>
        intro h1 h2
        obtain ⟨l, k1, k2⟩ := ih (fun r hr => h1 r (List.mem_cons_of_mem _ hr)) (fun r hr => h2 r (List.mem_cons_of_mem _ hr))
        have hr1 := h1 r (List.mem_cons_self ..)
        have h2 := h2 r (List.mem_cons_self ..)
        match r, hr1 with
        | [v0, v1, v2, v3], _ =>
          have o0 := h2 0 _ _ rfl rfl
          have o1 := h2 1 _ _ rfl rfl
          have o2 := h2 2 _ _ rfl rfl
          have o3 := h2 3 _ _ rfl rfl
          cases o0 with | bool b0 =>
          cases o1 with | int _ n1 _ _ =>
          cases o2 with | int _ n2 _ _ =>
          cases o3 with | str s3 _ =>
          refine ⟨⟨b0, ⟨n1, n2, s3.data.toList⟩⟩ :: l, ?_, by simp [k2]⟩
          rw [List.flatten_cons, k1, encs_cons]
          unfold replyA
          dsimp only
          rw [bs_eta]
    obtain ⟨l, k1, k2⟩ := this rows hl hr
    exact ⟨l, .ro, by rw [k1, k2]; rfl, by omega, rfl⟩
theorem drop_rp (pre : List Rp) (x : Rp) (r : List Rp) : List.drop (pre.length * 4) (encs replyA (pre ++ x :: r)) = replyA x ++ encs replyA r := by
  have := drop_pre (f := replyA) pre (x :: r)
  rw [this]; rfl
def mv (w : Wk) : Nat := w.parts.length + 101 * (8 - w.links.toNat)
/-- It is over, or asks with few parts left. -/
def Lv (w : Wk) : Prop := (w.fin.isSome = true ∧ w.parts = []) ∨ (Asking w ∧ mv w ≤ 1358)
theorem onM_len (w : Wk) (hf : w.fin = none) (h0 : 0 ≤ w.links) (h8 : w.links ≤ 8) (hm : mv w ≤ 1358) : Lv (onM w) := by
  unfold onM
  have hl := drop_len dot w.parts
  split
  · exact .inl ⟨rfl, rfl⟩
  · rename_i l hne
    refine .inr ⟨⟨hf, fun e => hne e, h0, h8⟩, ?_⟩
    simp only [mv] at hm ⊢
    omega
theorem linkM_len (w : Wk) (hf : w.fin = none) (h0 : 0 ≤ w.links) (h8 : w.links ≤ 8) (hm : mv w ≤ 1358) (t : List UInt8) (ht : t.length ≤ 200) : Lv (linkM w t) := by
  unfold linkM
  split
  · exact .inl ⟨rfl, rfl⟩
  rename_i h9
  split
  · have hc := cut_half (slashed_head t)
    have hs := slashed_len t
    refine onM_len { w with links := w.links + 1, at_ := (if t.head? = some 47 then 1 else w.at_), parts := cutP (slashed t) ++ w.parts } hf (by dsimp only; omega) (by dsimp only; omega) ?_
    simp only [mv, List.length_append] at hm ⊢
    omega
  · exact .inl ⟨rfl, rfl⟩
theorem giveM_len {w : Wk} (h : Asking w) (hm : mv w ≤ 1358) (f : Fnd) (ht : f.target.length ≤ 200) : Lv (giveM w f) := by
  obtain ⟨hf, hne, h0, h8⟩ := h
  obtain ⟨at_, l, links, fol, fin⟩ := w
  dsimp only at hf hne h0 h8
  subst hf
  cases l with
  | nil => exact absurd rfl hne
  | cons p r =>
    have mo : ∀ at', mv (⟨at', r, links, fol, none⟩ : Wk) ≤ 1358 := fun _ => by simp only [mv, List.length_cons] at hm ⊢; omega
    have on : ∀ at', Lv (onM ⟨at', r, links, fol, none⟩) := fun at' => onM_len _ rfl h0 h8 (mo at')
    have li : Lv (linkM ⟨at_, r, links, fol, none⟩ f.target) := linkM_len _ rfl h0 h8 (mo at_) _ ht
    unfold giveM
    dsimp only
    split
    · exact on _
    split
    · split
      · exact li
      · exact .inl ⟨rfl, rfl⟩
    split
    · exact on _
    split
    · exact li
    · exact .inl ⟨rfl, rfl⟩
theorem newM_len {p : List UInt8} (ep : partsE p = 0) (hp : p.length ≤ 1100) (fol : Bool) : Lv (newM p fol) := by
  have hc := cut_half (partsE_ok.1 ep).2.1
  exact onM_len ⟨1, cutP p, 0, fol, none⟩ rfl (Int.le_refl _) (by dsimp only; omega) (by show (cutP p).length + 808 ≤ 1358; omega)
theorem Lv.few {w : Wk} (h : Lv w) : w.parts.length ≤ 1358 := by
  rcases h with ⟨_, h⟩ | ⟨_, h⟩
  · rw [h]; simp
  · unfold mv at h; omega
theorem Lv.over {w : Wk} (h : Lv w) : w.fin.isSome = true ∨ Asking w := h.imp (·.1) (·.1)
theorem Lv.asks {w : Wk} (h : Lv w) (hf : w.fin = none) : w.parts ≠ [] := by
  rcases h with ⟨h, _⟩ | ⟨h, _⟩
  · rw [hf] at h; cases h
  · exact h.2.1
theorem missM_len (w : Wk) : Lv (missM w) := .inl ⟨missM_fin w, missM_parts w⟩
theorem Wat.still {H H' : Heap} {a : Nat} {w : Wk} (h : Wat H a w) (k : Still H H') : Wat H' a w := by
  obtain ⟨s, tk, h1, h2, h3⟩ := h
  exact ⟨s, tk, h1, h2, k _ _ h3⟩
theorem WatC.keep {H H' : Heap} {a b : Nat} {w : Wk} (h : WatC H a w) (k : Keep b H H') (hab : a ≠ b) : WatC H' a w := by
  obtain ⟨s, tk, h1, h2, h3⟩ := h
  exact ⟨s, tk, h1, h2, k.2 _ _ hab h3⟩
theorem walkAsks_pc {x0 x1 x2 : AV} (h0 : OkS .str x0) (h1 : OkS .bool x1) (h2 : OkS (.slice [.bool, .int .i64, .int .i64, .str]) x2) : (cbL tab).pc 12 [x0, x1, x2] = some (.plain (.bool true)) := by
  cases h0 with
  | str s hs =>
  have hb := bs_eta s
  generalize s.data.toList = p at hb
  subst hb
  cases h1 with
  | bool fol =>
  obtain ⟨l, tk, rfl, hlen, htk⟩ := ok_replies h2
  obtain ⟨u1, e1, f1⟩ := lend_sl 4 l.length (encs replyA l) tk
  refine pc_wp (fi := c12) rfl ?_ (by simp [c12]) (by decide) ?_
  · simp only [pcOn, List.map_cons, List.map_nil, hfL, hf_lend_sl, hf_lend_int, hf_lend_bool, hf_lend_str, hfL_append, Bool.and_self, Bool.and_true, Bool.true_and, c12, hf_replyA]
  unfold c12
  rw [List.map_cons, List.map_cons, List.map_cons, List.map_nil, e1, lend_str, lend_bool]
  by_cases hp : 1100 < p.length
  · have h' : (1100 : Int) < (p.length : Nat) := by omega
    simp (disch := omega) only [wk, avalE, aactE, evPE, boundE, asNat, bv_seql cellsEq_ii, bv_sneqd cellsEq_ii, readC, allOne, fillL, resE, tupled, ↓reduceIte, Nat.reduceEqDiff, Int.reduceEq, Int.reduceLT, Int.reduceLE, Nat.reduceAdd, Nat.reduceMul, Nat.reduceLT, Nat.reduceLeDiff, reduceCtorEq, bs_size, h', works17_px, purify, unownT, AV.hf]
  have hp1 : ¬ (1100 : Int) < (p.length : Nat) := by omega
  by_cases hl1 : 100 < l.length
  · have h' : (100 : Int) < (l.length : Nat) := by omega
    simp (disch := omega) only [wk, avalE, aactE, evPE, boundE, asNat, bv_seql cellsEq_ii, bv_sneqd cellsEq_ii, readC, allOne, fillL, resE, tupled, ↓reduceIte, Nat.reduceEqDiff, Int.reduceEq, Int.reduceLT, Int.reduceLE, Nat.reduceAdd, Nat.reduceMul, Nat.reduceLT, Nat.reduceLeDiff, reduceCtorEq, bs_size, hp1, h', works17_px, purify, unownT, AV.hf]
  have hl2 : ¬ (100 : Int) < (l.length : Nat) := by omega
  by_cases ep : partsE p = 0
  case neg =>
    have nn := fun H => new_no (fol := fol) (show p.length ≤ 5000 by omega) ep H
    have rn := fun H => rnew_no (fol := fol) (show p.length ≤ 5000 by omega) ep H
    have tt : (true == true) = true := rfl
    simp (disch := omega) only [wk, avalE, aactE, evPE, boundE, asNat, bv_seql cellsEq_ii, bv_sneqd cellsEq_ii, readC, allOne, fillL, resE, tupled, ↓reduceIte, Nat.reduceEqDiff, Int.reduceEq, Int.reduceLT, Int.reduceLE, Nat.reduceAdd, Nat.reduceMul, Nat.reduceLT, Nat.reduceLeDiff, reduceCtorEq, bs_size, hp1, hl2, nn, rn, num17_px, ep, pnn, tt, kemp, works17_px, in_none, runE_none ll_none, in_Asks, runE_none ll_Asks, in_Give, runE_none ll_Give, in_Miss, runE_none ll_Miss, in_Done, runE_none ll_Done, in_Copy, runE_none ll_Copy, in_on, runE_none ll_on, in_asked, runE_none ll_asked, in_into, runE_none ll_into, in_through, runE_none ll_through, in_ends, runE_none ll_ends, in_New, runE_none ll_New, in_same, runE_none ll_same, purify, unownT, AV.hf]
  obtain ⟨H0, q1, q2, q3⟩ := new_ic (fol := fol) (show p.length ≤ 5000 by omega) ep []
  simp only [List.length_nil] at q1 q2
  obtain ⟨s0, t0, n1, n2, n3, rn⟩ := rnew_px (fol := fol) (show p.length ≤ 5000 by omega) ep
  have hlv := newM_len ep (by omega) fol
  generalize newM p fol = w0 at *
  have rn' : ∀ H, pcx (cbL tab) 45 [.str (bs p), .bool fol] H = some (.plain (.tup [.agg [.int .i64 w0.at_, .sl s0 w0.parts.length (encs strA w0.parts) t0, .int .i64 w0.links, .bool w0.follow, .bool w0.fin.isSome, .int .i64 w0.endA.errno, .int .i64 w0.endA.dir, .str (bs w0.endA.name), .int .i64 w0.endA.inode, .int .i64 w0.endA.kind], .int .i64 0])) := rn
  clear rn
  have g0 : ∀ (L : List AObj), (H0 ++ L)[H0.length]? = L[0]? := fun L => by rw [List.getElem?_append_right (by omega)]; congr 1; omega
  have s0' : ∀ (L : List AObj) (o : AObj), (H0 ++ L).set H0.length o = H0 ++ L.set 0 o := fun L o => by rw [List.set_append_right _ _ (by omega)]; congr 2; omega
  have hk : 0 < H0.length := by
    obtain ⟨_, _, _, _, h⟩ := q2
    exact (List.getElem?_eq_some_iff.1 h).1
  have ff : (false == false) = true := rfl
  simp (disch := omega) only [wk, avalE, aactE, evPE, boundE, asNat, bv_seql cellsEq_ii, bv_sneqd cellsEq_ii, readC, allOne, fillL, resE, tupled, ↓reduceIte, Nat.reduceEqDiff, Int.reduceEq, Int.reduceLT, Int.reduceLE, Nat.reduceAdd, Nat.reduceMul, Nat.reduceLT, Nat.reduceLeDiff, reduceCtorEq, bs_size, hp1, hl2, q1, rn', num17_px, ppn, ff, g0, s0', kemp, in_none, runE_none ll_none, in_Asks, runE_none ll_Asks, in_Give, runE_none ll_Give, in_Miss, runE_none ll_Miss, in_Done, runE_none ll_Done, in_Copy, runE_none ll_Copy, in_on, runE_none ll_on, in_asked, runE_none ll_asked, in_into, runE_none ll_into, in_through, runE_none ll_through, in_ends, runE_none ll_ends, in_New, runE_none ll_New, in_same, runE_none ll_same]
  generalize hkk : H0.length = k at *
  refine loop_ind (fun (y : List Rp × List Rp × Wk) E df H => l = y.1 ++ y.2.1 ∧ Wat H 0 y.2.2 ∧ Lv y.2.2 ∧ RAt H k y.2.2 ∧ E 2 = .sl 4 l.length (encs replyA l) u1 ∧ E 7 = .ptr 0 0 ∧ E 9 = .ptr k 0 ∧ E 11 = .int .i64 (y.1.length : Nat) ∧ df = [])
    (fun y => y.2.1.length) ([], l, w0) (by decide) (.inl rfl) ⟨rfl, q2.app _, hlv, ⟨s0, t0, n1, n2, n3, g0 _⟩, rfl, rfl, rfl, rfl, rfl⟩ ?_
  clear q1 q2 q3 rn' g0 s0' n1 n2 n3 hlv hkk H0
  intro ⟨pre, suf, w⟩ E df H ih hP
  obtain ⟨a1, hW, hL, hR, E2, E7, E9, E11, hdf⟩ := hP
  dsimp only at a1 hW hL hR E11
  subst hdf
  have la : l.length = pre.length + suf.length := by rw [a1, List.length_append]
  have hfew := hL.few
  have hC := hW.c hL.asks
  obtain ⟨s, t, m1, m2, m3, z1⟩ := hR
  cases suf with
  | nil =>
    have n1 : ¬ (pre.length : Int) < (l.length : Int) := by simp at la; omega
    obtain ⟨H1, c1, c2⟩ := same_ic hC hL.over (s := s) (tk := t) m1 m2 (by omega)
    unfold rcells Wd.cells at z1 c1
    simp only [List.cons_append, List.nil_append] at z1 c1
    simp (disch := omega) only [wk, avalE, aactE, evPE, boundE, asNat, bv_seql cellsEq_ii, bv_sneqd cellsEq_ii, readC, allOne, fillL, resE, tupled, ↓reduceIte, Nat.reduceEqDiff, Int.reduceEq, Int.reduceLT, Int.reduceLE, Nat.reduceAdd, Nat.reduceMul, Nat.reduceLT, Nat.reduceLeDiff, reduceCtorEq, E2, E7, E9, E11, n1, z1, c1, works17_px, in_none, runE_none ll_none, in_Asks, runE_none ll_Asks, in_Give, runE_none ll_Give, in_Miss, runE_none ll_Miss, in_Done, runE_none ll_Done, in_Copy, runE_none ll_Copy, in_on, runE_none ll_on, in_asked, runE_none ll_asked, in_into, runE_none ll_into, in_through, runE_none ll_through, in_ends, runE_none ll_ends, in_New, runE_none ll_New, in_same, runE_none ll_same, purify, unownT, AV.hf]
  | cons x r =>
    simp only [List.length_cons] at la
    have n1 : (pre.length : Int) < (l.length : Int) := by omega
    have d1 := drop_rp pre x r
    rw [← a1] at d1
    simp only [replyA, List.cons_append, List.nil_append] at d1
    have hle : ((pre.length : Nat) : Int) ≤ 100 := by omega
    by_cases ht : 200 < x.is.target.length
    · have h' : (200 : Int) < (x.is.target.length : Nat) := by omega
      simp (disch := omega) only [wk, avalE, aactE, evPE, boundE, asNat, bv_seql cellsEq_ii, bv_sneqd cellsEq_ii, readC, allOne, fillL, resE, tupled, ↓reduceIte, Nat.reduceEqDiff, Int.reduceEq, Int.reduceLT, Int.reduceLE, Nat.reduceAdd, Nat.reduceMul, Nat.reduceLT, Nat.reduceLeDiff, reduceCtorEq, E2, E7, E9, E11, n1, d1, bs_size, h', works17_px, in_none, runE_none ll_none, in_Asks, runE_none ll_Asks, in_Give, runE_none ll_Give, in_Miss, runE_none ll_Miss, in_Done, runE_none ll_Done, in_Copy, runE_none ll_Copy, in_on, runE_none ll_on, in_asked, runE_none ll_asked, in_into, runE_none ll_into, in_through, runE_none ll_through, in_ends, runE_none ll_ends, in_New, runE_none ll_New, in_same, runE_none ll_same, purify, unownT, AV.hf]
    have ht' : ¬ (200 : Int) < (x.is.target.length : Nat) := by omega
    obtain ⟨H1, p1, p2, p3⟩ := copy_ic hC (by omega)
    have hW1 := hW.still p3
    have y1 := p3 _ _ z1
    have hne0 : H.length ≠ 0 := by
      obtain ⟨_, _, _, _, h⟩ := hW
      have := (List.getElem?_eq_some_iff.1 h).1
      omega
    have ft : (false == true) = false := rfl
    obtain ⟨xm, xf⟩ := x
    obtain ⟨fi, fk, tg⟩ := xf
    dsimp only at ht ht' d1
    have alen : l = (pre ++ [⟨xm, ⟨fi, fk, tg⟩⟩]) ++ r := by simp [a1]
    by_cases hfin : w.fin.isSome = true
    · have f50 : ¬ (5 : Int) = 0 := by decide
      cases xm with
      | true =>
        have mo := miss_over hW1 hfin
        obtain ⟨H2, c1, c2⟩ := same_ic p2 hL.over (s := s) (tk := t) m1 m2 (by omega)
        have y2 := c2 _ _ y1
        unfold rcells Wd.cells at y1 y2 c1
        simp only [List.cons_append, List.nil_append] at y1 y2 c1
        rw [hfin] at y1 y2 c1
        simp (disch := omega) only [wk, avalE, aactE, evPE, boundE, asNat, bv_seql cellsEq_ii, bv_sneqd cellsEq_ii, readC, allOne, fillL, resE, tupled, ↓reduceIte, Nat.reduceEqDiff, Int.reduceEq, Int.reduceLT, Int.reduceLE, Nat.reduceAdd, Nat.reduceMul, Nat.reduceLT, Nat.reduceLeDiff, reduceCtorEq, E2, E7, E9, E11, n1, d1, bs_size, ht', p1, mo, y1, y2, c1, num17_px, runG_un, in_none, runE_none ll_none, in_Asks, runE_none ll_Asks, in_Give, runE_none ll_Give, in_Miss, runE_none ll_Miss, in_Done, runE_none ll_Done, in_Copy, runE_none ll_Copy, in_on, runE_none ll_on, in_asked, runE_none ll_asked, in_into, runE_none ll_into, in_through, runE_none ll_through, in_ends, runE_none ll_ends, in_New, runE_none ll_New, in_same, runE_none ll_same]
        refine ih (_, r, w) _ _ _ (by simp) ⟨alen, hW1.still c2, hL, ⟨s, t, m1, m2, m3, ?_⟩, by simp only [en, ↓reduceIte, Nat.reduceEqDiff, E2], by simp only [en, ↓reduceIte, Nat.reduceEqDiff, E7], by simp only [en, ↓reduceIte, Nat.reduceEqDiff, E9], by simp only [en, ↓reduceIte, Nat.reduceEqDiff], rfl⟩
        unfold rcells Wd.cells
        rw [hfin]
        exact y2
      | false =>
        obtain ⟨H2, mo, k1, k2⟩ := give_over hW1 hfin ⟨fi, fk, tg⟩
        obtain ⟨H3, c1, c2⟩ := same_ic (p2.keep k2 hne0) hL.over (s := s) (tk := t) m1 m2 (by omega)
        have y2 := k2.2 _ _ (by omega) y1
        have y3 := c2 _ _ y2
        unfold rcells Wd.cells at y2 y3 c1
        unfold Fnd.cells at mo
        simp only [List.cons_append, List.nil_append] at y2 y3 c1
        rw [hfin] at y2 y3 c1
        simp (disch := omega) only [wk, avalE, aactE, evPE, boundE, asNat, bv_seql cellsEq_ii, bv_sneqd cellsEq_ii, readC, allOne, fillL, resE, tupled, ↓reduceIte, Nat.reduceEqDiff, Int.reduceEq, Int.reduceLT, Int.reduceLE, Nat.reduceAdd, Nat.reduceMul, Nat.reduceLT, Nat.reduceLeDiff, reduceCtorEq, E2, E7, E9, E11, n1, d1, bs_size, ht', p1, mo, y2, y3, c1, num17_px, runG_un, in_none, runE_none ll_none, in_Asks, runE_none ll_Asks, in_Give, runE_none ll_Give, in_Miss, runE_none ll_Miss, in_Done, runE_none ll_Done, in_Copy, runE_none ll_Copy, in_on, runE_none ll_on, in_asked, runE_none ll_asked, in_into, runE_none ll_into, in_through, runE_none ll_through, in_ends, runE_none ll_ends, in_New, runE_none ll_New, in_same, runE_none ll_same]
        refine ih (_, r, w) _ _ _ (by simp) ⟨alen, k1.still c2, hL, ⟨s, t, m1, m2, m3, ?_⟩, by simp only [en, ↓reduceIte, Nat.reduceEqDiff, E2], by simp only [en, ↓reduceIte, Nat.reduceEqDiff, E7], by simp only [en, ↓reduceIte, Nat.reduceEqDiff, E9], by simp only [en, ↓reduceIte, Nat.reduceEqDiff], rfl⟩
        unfold rcells Wd.cells
        rw [hfin]
        exact y3
    have hA : Asking w := by
      rcases hL with ⟨h, _⟩ | ⟨h, _⟩
      · exact absurd h hfin
      · exact h
    have hA' := hA
    obtain ⟨hf, hne, hl0, hl8⟩ := hA
    obtain ⟨q, rr, hqr⟩ : ∃ q r, w.parts = q :: r := by
      cases h : w.parts with
      | nil => exact absurd h hne
      | cons q r => exact ⟨q, r, rfl⟩
    have hlr : rr.length + 1 ≤ 1358 := by rw [hqr, List.length_cons] at hfew; exact hfew
    obtain rfl := m1 hne
    obtain rfl := m3 hne
    have e1 : encs strA (q :: rr) = .str (bs q) :: encs strA rr := rfl
    have hend : w.endA = zeroW := by unfold Wk.endA; rw [hf]; rfl
    have hmv : mv w ≤ 1358 := by
      rcases hL with ⟨h, _⟩ | ⟨_, h⟩
      · exact absurd h hfin
      · exact h
    cases xm with
    | true =>
      obtain ⟨H2, mo, k1, k2⟩ := miss_ic hW1 hf (by omega)
      obtain ⟨H3, c1, c2⟩ := same_ic (p2.keep k2 hne0) hL.over (s := 1) (tk := .ro) m1 m2 (by omega)
      have y2 := k2.2 _ _ (by omega) y1
      have y3 := c2 _ _ y2
      have hpm := missM_parts w
      obtain ⟨s2, t2, j2, j3, j4, rm⟩ : ∃ s2 t2, ((missM w).parts ≠ [] → s2 = 1) ∧ t2.hf = true ∧ ((missM w).parts ≠ [] → t2 = .ro) ∧ ∀ H, pcx (cbL tab) 48 [.agg [.int .i64 w.at_, .sl 1 (rr.length + 1) (.str (bs q) :: encs strA rr) .ro, .int .i64 w.links, .bool w.follow, .bool false, .int .i64 0, .int .i64 0, .str (bs []), .int .i64 0, .int .i64 0]] H = some (.plain (.agg (rcells (missM w) (.sl s2 (missM w).parts.length (encs strA (missM w).parts) t2)))) :=
        ⟨0, .z, fun h => absurd hpm h, rfl, fun h => absurd hpm h, fun H => by rw [rmiss_w hf hqr (by omega) H, hpm]; rfl⟩
      have hL2 := missM_len w
      clear hpm
      have k3 := k1.still c2
      generalize missM w = wm at *
      have hmp := hL2.few
      have k4 : ∀ o, Wat (H3.set k o) 0 wm := fun o => k3.set_ne (by omega)
      have k5 : ∀ o, (H3.set k o)[k]? = some o := fun o => set_eq y3
      obtain ⟨H4, d3, d4⟩ := same_ic ((k4 (.cells (rcells wm (.sl s2 wm.parts.length (encs strA wm.parts) t2)))).c hL2.asks) hL2.over (s := s2) (tk := t2) j2 j3 (by omega)
      have y4 := d4 _ _ (k5 _)
      have k6 := (k4 _).still d4
      unfold rcells Wd.cells at y2 y3 c1 d3 rm
      simp only [List.cons_append, List.nil_append] at y2 y3 c1 d3 rm
      simp only [hqr, hf, hend, e1, zeroW, Option.isSome_none, List.length_cons] at y2 y3 c1
      simp (disch := omega) only [wk, avalE, aactE, evPE, boundE, asNat, bv_seql cellsEq_ii, bv_sneqd cellsEq_ii, readC, allOne, fillL, resE, tupled, ↓reduceIte, Nat.reduceEqDiff, Int.reduceEq, Int.reduceLT, Int.reduceLE, Nat.reduceAdd, Nat.reduceMul, Nat.reduceLT, Nat.reduceLeDiff, reduceCtorEq, E2, E7, E9, E11, n1, d1, bs_size, ht', p1, mo, y2, y3, c1, rm, k5, d3, num17_px, runG_un, Bool.false_eq_true, in_none, runE_none ll_none, in_Asks, runE_none ll_Asks, in_Give, runE_none ll_Give, in_Miss, runE_none ll_Miss, in_Done, runE_none ll_Done, in_Copy, runE_none ll_Copy, in_on, runE_none ll_on, in_asked, runE_none ll_asked, in_into, runE_none ll_into, in_through, runE_none ll_through, in_ends, runE_none ll_ends, in_New, runE_none ll_New, in_same, runE_none ll_same]
      exact ih (_, r, wm) _ _ _ (by simp) ⟨alen, k6, hL2, ⟨s2, t2, j2, j3, j4, y4⟩, by simp only [en, ↓reduceIte, Nat.reduceEqDiff, E2], by simp only [en, ↓reduceIte, Nat.reduceEqDiff, E7], by simp only [en, ↓reduceIte, Nat.reduceEqDiff, E9], by simp only [en, ↓reduceIte, Nat.reduceEqDiff], rfl⟩
    | false =>
      obtain ⟨H2, mo, k1, k2⟩ := give_ic hW1 hf ⟨fi, fk, tg⟩ (fun _ => by dsimp only; omega) (by omega) ⟨hl0, by omega⟩ hne
      obtain ⟨H3, c1, c2⟩ := same_ic (p2.keep k2 hne0) hL.over (s := 1) (tk := .ro) m1 m2 (by omega)
      have y2 := k2.2 _ _ (by omega) y1
      have y3 := c2 _ _ y2
      obtain ⟨s2, t2, j2, j3, j4, rm⟩ := rgive_w hf hqr (by omega) ⟨hl0, by omega⟩ ⟨fi, fk, tg⟩ (by dsimp only; omega)
      have hL2 := giveM_len hA' hmv ⟨fi, fk, tg⟩ (by dsimp only; omega)
      unfold Fnd.cells at mo rm
      have k3 := k1.still c2
      generalize giveM w ⟨fi, fk, tg⟩ = wm at *
      have hmp := hL2.few
      have k4 : ∀ o, Wat (H3.set k o) 0 wm := fun o => k3.set_ne (by omega)
      have k5 : ∀ o, (H3.set k o)[k]? = some o := fun o => set_eq y3
      obtain ⟨H4, d3, d4⟩ := same_ic ((k4 (.cells (rcells wm (.sl s2 wm.parts.length (encs strA wm.parts) t2)))).c hL2.asks) hL2.over (s := s2) (tk := t2) j2 j3 (by omega)
      have y4 := d4 _ _ (k5 _)
      have k6 := (k4 _).still d4
      unfold rcells Wd.cells at y2 y3 c1 d3 rm
      simp only [List.cons_append, List.nil_append] at y2 y3 c1 d3 rm
      simp only [hqr, hf, hend, e1, zeroW, Option.isSome_none, List.length_cons] at y2 y3 c1
      simp (disch := omega) only [wk, avalE, aactE, evPE, boundE, asNat, bv_seql cellsEq_ii, bv_sneqd cellsEq_ii, readC, allOne, fillL, resE, tupled, ↓reduceIte, Nat.reduceEqDiff, Int.reduceEq, Int.reduceLT, Int.reduceLE, Nat.reduceAdd, Nat.reduceMul, Nat.reduceLT, Nat.reduceLeDiff, reduceCtorEq, E2, E7, E9, E11, n1, d1, bs_size, ht', p1, mo, y2, y3, c1, rm, k5, d3, num17_px, runG_un, Bool.false_eq_true, in_none, runE_none ll_none, in_Asks, runE_none ll_Asks, in_Give, runE_none ll_Give, in_Miss, runE_none ll_Miss, in_Done, runE_none ll_Done, in_Copy, runE_none ll_Copy, in_on, runE_none ll_on, in_asked, runE_none ll_asked, in_into, runE_none ll_into, in_through, runE_none ll_through, in_ends, runE_none ll_ends, in_New, runE_none ll_New, in_same, runE_none ll_same]
      exact ih (_, r, wm) _ _ _ (by simp) ⟨alen, k6, hL2, ⟨s2, t2, j2, j3, j4, y4⟩, by simp only [en, ↓reduceIte, Nat.reduceEqDiff, E2], by simp only [en, ↓reduceIte, Nat.reduceEqDiff, E7], by simp only [en, ↓reduceIte, Nat.reduceEqDiff, E9], by simp only [en, ↓reduceIte, Nat.reduceEqDiff], rfl⟩
end Go.Proofs.YtmogflndepihnaaDoor
