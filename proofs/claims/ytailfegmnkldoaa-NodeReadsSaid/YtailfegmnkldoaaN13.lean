/- THE WALK OF A NODE'S Each, for any consumer. No condition but those stated. -/
import Derived.Test.YtailfegmnkldoaaN7
set_option linter.unusedSimpArgs false
set_option linter.unusedVariables false
set_option linter.unusedSectionVars false
namespace Go.Proofs.Ytailfegmnkldoaa
open Go Go.Am Go.Slots Go.Nod
set_option maxHeartbeats 8000000
set_option maxRecDepth 10000
theorem neach_px (w : AV) (H : Heap) : pcx (cbL tab) 34 [w] H = none := pcx_none rfl (pc_none (fi := c34) rfl rfl)
theorem l34 : (cbL tab).lent 34 = false := rfl
theorem neach_ic (sz n : Nat) (cs : List AV) (tk : Tk) (H : Heap) : (cbL tab).ic 34 [.sl sz n cs tk] H = some (.ret (.fn 68 [.ptr H.length 0]), H ++ [.cells [.sl sz n cs tk]]) := by
  refine ic_val (ic_wp (fi := c34) rfl rfl (by simp [c34]) (by decide) ?_)
  unfold c34
  simp (disch := omega) only [wk, avalE, aactE, evPE, boundE, asNat, bv_seql cellsEq_ii, bv_sneqd cellsEq_ii, readC, allOne, fillL, resE, tupled, ↓reduceIte, Nat.reduceEqDiff, Int.reduceEq, Int.reduceLT, Int.reduceLE, Nat.reduceAdd, Nat.reduceMul, Nat.reduceLT, Nat.reduceLeDiff, reduceCtorEq]
def nAs : ACode := .seq (.region [⟨some 5, .mv (.t 20), none⟩]) (.region [⟨some 6, .alloc [.int .u64 0, .int .u64 0], none⟩, ⟨none, .store 2 (.t 6) (.t 21), none⟩])
def nBd : ACode := .block 1 (.seq (.region [⟨some 22, .load 1 false (.t 2), none⟩, ⟨some 23, .mv (.t 5), none⟩, ⟨some 24, .load 2 true (.t 6), none⟩, ⟨some 25, .callv (.t 22) [.t 23, .t 24], none⟩, ⟨some 26, .un .not (.t 25), none⟩]) (.cond (.t 26) (.exit 0) .skip))
/-- What memory shows while a node's pairs are gone over: the outer consumer's state, whether it has left, and what is ours. -/
def NeR {σ : Type} (R : σ → Heap → Prop) (k a : Nat) (id : Nat) (tm : List AV) (s : σ × Bool) (H : Heap) : Prop :=
  R s.1 H ∧ H[a]? = some (.cells [.yld id]) ∧ H[k]? = some .defd ∧ H[k + 1]? = some (if s.2 then .loop 2 (.exit 0) tm [20, 21] nAs nBd else .loop 0 .normal tm [20, 21] nAs nBd)
def neStp {σ : Type} (stp : σ → Nat → Int × Int → σ × Bool) (s : σ × Bool) (j : Nat) (x : Int × Int) : (σ × Bool) × Bool := (((stp s.1 j x).1, !(stp s.1 j x).2), (stp s.1 j x).2)
theorem ne_runY {σ : Type} (stp : σ → Nat → Int × Int → σ × Bool) : ∀ (l : List (Nat × (Int × Int))) (s : σ), (runY (neStp stp) (s, false) l).1 = runY stp s l
  | [], _ => rfl
  | x :: r, s => by
    rw [runY, runY]
    cases h : (stp s x.1 x.2).2 with
    | true =>
      have e : neStp stp (s, false) x.1 x.2 = (((stp s x.1 x.2).1, false), true) := by simp [neStp, h]
      rw [e]
      simp only [if_true]
      exact ne_runY stp r _
    | false =>
      have e : neStp stp (s, false) x.1 x.2 = (((stp s x.1 x.2).1, true), false) := by simp [neStp, h]
      rw [e]
      simp
theorem ne_ok {σ : Type} (stp : σ → Nat → Int × Int → σ × Bool) (ok : σ → Nat → Int × Int → Prop) : ∀ (l : List (Nat × (Int × Int))) (s : σ), okRun ok stp s l → okRun (fun s j x => s.2 = false ∧ ok s.1 j x) (neStp stp) (s, false) l
  | [], _, _ => trivial
  | x :: r, s, h => by
    refine ⟨⟨rfl, h.1⟩, fun h2 => ?_⟩
    have h2' : (stp s x.1 x.2).2 = true := h2
    have e : (neStp stp (s, false) x.1 x.2).1 = ((stp s x.1 x.2).1, false) := by simp [neStp, h2']
    rw [e]
    exact ne_ok stp ok r _ (h.2 h2')
theorem ne_ys {σ : Type} {R : σ → Heap → Prop} {stp : σ → Nat → Int × Int → σ × Bool} {id k0 : Nat} {cnt : σ → Nat} {ok : σ → Nat → Int × Int → Prop} (ys : YS id k0 cnt ok R stp) {E : Env} {tm : List AV} {k a : Nat} (ha : Ag 27 tm E) (E2 : E 2 = .ptr a 0) (hka : a < k) (hk0 : k0 ≤ a) :
    YS (k + 1) (k + 2) (fun s : σ × Bool => cnt s.1) (fun s j x => s.2 = false ∧ ok s.1 j x) (NeR R k a id tm) (neStp stp) := by
  refine ⟨?_, ?_, ?_⟩
  · intro s H j x hk hcnt hj hok hR
    obtain ⟨s, b⟩ := s
    obtain ⟨hb, hok⟩ := hok
    simp only at hb hok hcnt
    subst hb
    obtain ⟨h1, h2, h3, h4⟩ := hR
    simp only [Bool.false_eq_true, if_false] at h4
    simp only at h1
    have hres : ∀ H, k0 ≤ H.length → R s H → _ := fun H hH hR => ys.step s H j x hH hcnt hj hok hR
    have hlen0 : k0 ≤ H.length := by omega
    refine ⟨(ys.step s H j x hlen0 hcnt hj hok h1).1, ?_⟩
    have key := yl_wp (tab := tab) (P := fun b H' => b = (stp s j x).2 ∧ NeR R k a id tm (neStp stp (s, false) j x).1 H' ∧ H.length ≤ H'.length ∧ ∀ i o, k + 2 ≤ i → (∀ s, o ≠ .tok s) → H[i]? = some o → H'[i]? = some o)
      (args := [.int .i64 (j : Nat), .agg (pairA x)]) (readLoop_of h4) ha rfl (by decide) (by decide) (by decide) (by decide) (by decide) ?_
    · obtain ⟨b, H', k1, rfl, k2⟩ := key
      exact ⟨H', k1, k2⟩
    have e1 : ∀ o : AObj, (H ++ [o])[H.length]? = some o := fun o => by simp
    have up : ∀ (i : Nat) (q o o' : AObj), H[i]? = some q → ((H ++ [o]).set H.length o')[i]? = some q := fun i q o o' hq => by
      have := (List.getElem?_eq_some_iff.1 hq).1
      rw [set_ne (by omega), List.getElem?_append_left this]
      exact hq
    have hR1 : ∀ o o' : AObj, (∀ s, o ≠ .tok s) → R s ((H ++ [o]).set H.length o') := fun o o' hn => ys.set s _ _ _ _ hlen0 (ys.push s H o h1) hn (e1 o)
    unfold nAs
    simp (disch := omega) only [wk, avalE, aactE, evPE, boundE, asNat, bv_seql cellsEq_ii, bv_sneqd cellsEq_ii, readC, allOne, fillL, resE, tupled, ↓reduceIte, Nat.reduceEqDiff, Int.reduceEq, Int.reduceLT, Int.reduceLE, Nat.reduceAdd, Nat.reduceMul, Nat.reduceLT, Nat.reduceLeDiff, reduceCtorEq, updPs_cons, updPs_nil, e1, pairA, List.append_nil]
    refine ⟨rfl, rfl, _, _, _, _, _, readLoop_of (up _ _ _ _ h4), ?_⟩
    have hRa := hR1 (AObj.cells [AV.int IntKind.u64 0, AV.int IntKind.u64 0]) (.cells [.int .u64 x.1, .int .u64 x.2]) (fun s e => by cases e)
    generalize hH1 : (List.set (H ++ [AObj.cells [AV.int IntKind.u64 0, AV.int IntKind.u64 0]]) H.length _) = H1 at hRa ⊢
    have u1 : ∀ (i : Nat) (q : AObj), H[i]? = some q → H1[i]? = some q := fun i q hq => by rw [← hH1]; exact up _ _ _ _ hq
    have u2 : H1[H.length]? = some (.cells (pairA x)) := by rw [← hH1]; exact set_eq (e1 _)
    have u3 : H1.length = H.length + 1 := by rw [← hH1]; simp
    generalize hlo : AObj.loop 1 _ _ _ _ _ = lo
    have hRb : R s (H1.set (k + 1) lo) := ys.set s _ _ _ _ (by omega) hRa (fun s e => by cases e) (u1 _ _ h4)
    have w2 : (H1.set (k + 1) lo)[a]? = some (.cells [.yld id]) := by rw [set_ne (by omega)]; exact u1 _ _ h2
    have w3 : (H1.set (k + 1) lo)[H.length]? = some (.cells [.int .u64 x.1, .int .u64 x.2]) := by
      have := (List.getElem?_eq_some_iff.1 h4).1
      rw [set_ne (by omega)]; exact u2
    have w4 : (H1.set (k + 1) lo)[k + 1]? = some lo := set_eq (u1 _ _ h4)
    have w5 : (H1.set (k + 1) lo)[k]? = some .defd := by rw [set_ne (by omega)]; exact u1 _ _ h3
    have w6 : ∀ i o, k + 2 ≤ i → H[i]? = some o → (H1.set (k + 1) lo)[i]? = some o := fun i o hi hc => by rw [set_ne (by omega)]; exact u1 _ _ hc
    have len1 : (H1.set (k + 1) lo).length = H.length + 1 := by rw [List.length_set, u3]
    generalize H1.set (k + 1) lo = Hb at *
    obtain ⟨_, H2, y1, y2, y3, y4⟩ := ys.step s Hb j x (by omega) hcnt hj hok hRb
    rw [pairA] at y1
    have z2 := y4 _ _ hk0 (fun s e => by cases e) w2
    have z4 := y4 _ _ (show k0 ≤ k + 1 by omega) (fun s e => by rw [← hlo] at e; cases e) w4
    have z5 := y4 _ _ (show k0 ≤ k by omega) (fun s e => by cases e) w5
    unfold nBd
    cases hst : (stp s j x).2 with
    | true =>
      rw [hst] at y1
      simp (disch := omega) only [wk, avalE, aactE, evPE, boundE, asNat, bv_seql cellsEq_ii, bv_sneqd cellsEq_ii, readC, allOne, fillL, resE, tupled, ↓reduceIte, Nat.reduceEqDiff, Int.reduceEq, Int.reduceLT, Int.reduceLE, Nat.reduceAdd, Nat.reduceMul, Nat.reduceLT, Nat.reduceLeDiff, reduceCtorEq, E2, w2, w3, y1, List.append_nil]
      subst hlo
      refine ⟨rfl, _, _, _, _, _, _, readLoop_of z4, rfl, ⟨ys.set _ _ _ _ _ (by omega) y2 (fun s e => by cases e) z4, by rw [set_ne (by omega)]; exact z2, by rw [set_ne (by omega)]; exact z5, ?_⟩, by simp; omega, fun i o hi hn hc => ?_⟩
      · rw [set_eq z4]; simp [neStp, hst]
      · rw [set_ne (by omega)]
        exact y4 _ _ (by omega) hn (w6 _ _ hi hc)
    | false =>
      rw [hst] at y1
      simp (disch := omega) only [wk, avalE, aactE, evPE, boundE, asNat, bv_seql cellsEq_ii, bv_sneqd cellsEq_ii, readC, allOne, fillL, resE, tupled, ↓reduceIte, Nat.reduceEqDiff, Int.reduceEq, Int.reduceLT, Int.reduceLE, Nat.reduceAdd, Nat.reduceMul, Nat.reduceLT, Nat.reduceLeDiff, reduceCtorEq, E2, w2, w3, y1, List.append_nil]
      subst hlo
      refine ⟨rfl, _, _, _, _, _, _, readLoop_of z4, rfl, ⟨ys.set _ _ _ _ _ (by omega) y2 (fun s e => by cases e) z4, by rw [set_ne (by omega)]; exact z2, by rw [set_ne (by omega)]; exact z5, ?_⟩, by simp; omega, fun i o hi hn hc => ?_⟩
      · rw [set_eq z4]; simp [neStp, hst]
      · rw [set_ne (by omega)]
        exact y4 _ _ (by omega) hn (w6 _ _ hi hc)
  · rintro s H o ⟨h1, h2, h3, h4⟩
    have up : ∀ (i : Nat) (q : AObj), H[i]? = some q → (H ++ [o])[i]? = some q := fun i q hq => by rw [List.getElem?_append_left (List.getElem?_eq_some_iff.1 hq).1]; exact hq
    exact ⟨ys.push _ _ _ h1, up _ _ h2, up _ _ h3, up _ _ h4⟩
  · rintro s H i o o' hi ⟨h1, h2, h3, h4⟩ hn hc
    exact ⟨ys.set _ _ _ _ _ (by omega) h1 hn hc, by rw [set_ne (by omega)]; exact h2, by rw [set_ne (by omega)]; exact h3, by rw [set_ne (by omega)]; exact h4⟩
theorem flat_yld (i : Nat) : (AV.yld i).flat = [.yld i] := (rfl)
theorem one_yld (i : Nat) : AV.one (.yld i) = true := (rfl)
theorem neach1_no {σ : Type} {R : σ → Heap → Prop} {stp : σ → Nat → Int × Int → σ × Bool} {id k0 a : Nat} {cnt : σ → Nat} {ok : σ → Nat → Int × Int → Prop} (ys : YS id k0 cnt ok R stp) {s0 : σ} {H : Heap} (hk : k0 ≤ H.length) (hR : R s0 H) {n : Nat} {cs : List AV} {tk : Tk}
    (ha : H[a]? = some (.cells [.sl 1 n cs tk])) (ho : ∀ H, pcx (cbL tab) 29 [.sl 1 n cs tk] H = some (.plain (.tup [nd0.av, .int .i64 210]))) :
    ∃ o H', (cbL tab).ic 68 [.yld id, .ptr a 0] H = some (o, H') ∧ o = .ret (.tup []) ∧ R s0 H' ∧ H.length ≤ H'.length := by
  refine ic_wp (fi := c68) rfl (by simp [pcOn, c68, lend, unown, hfL, AV.hf]) (by simp [c68]) (by decide) ?_
  unfold c68
  have g0 : ∀ o : AObj, (H ++ [o])[a]? = H[a]? := fun o => List.getElem?_append_left (List.getElem?_eq_some_iff.1 ha).1
  have g1 : ∀ o q : AObj, (H ++ [o] ++ [q])[(H ++ [o]).length]? = some q := fun o q => by simp
  rw [nd0_av] at ho
  simp (disch := omega) only [wk, avalE, aactE, evPE, boundE, asNat, bv_seql cellsEq_ii, bv_sneqd cellsEq_ii, readC, allOne, fillL, resE, tupled, ↓reduceIte, Nat.reduceEqDiff, Int.reduceEq, Int.reduceLT, Int.reduceLE, Nat.reduceAdd, Nat.reduceMul, Nat.reduceLT, Nat.reduceLeDiff, reduceCtorEq, flat_yld, one_yld, g0, ha, ho, List.length_append]
  have g2 : ∀ o q : AObj, (H ++ [o, q])[H.length + 1]? = some q := fun o q => by simp
  have g3 : ∀ o q : AObj, (H ++ [o, q])[H.length]? = some o := fun o q => by simp
  simp only [List.append_assoc, List.cons_append, List.nil_append]
  simp (disch := omega) only [wk, avalE, aactE, evPE, boundE, asNat, bv_seql cellsEq_ii, bv_sneqd cellsEq_ii, readC, allOne, fillL, resE, tupled, ↓reduceIte, Nat.reduceEqDiff, Int.reduceEq, Int.reduceLT, Int.reduceLE, Nat.reduceAdd, Nat.reduceMul, Nat.reduceLT, Nat.reduceLeDiff, reduceCtorEq, g0, g2, ha, ho, List.length_append]
  refine ⟨ys.set _ _ _ _ _ (by omega) (by rw [show ∀ o q : AObj, H ++ [o, q] = (H ++ [o]) ++ [q] from fun o q => by simp]; exact ys.push _ _ _ (ys.push _ _ _ hR)) (fun s e => by cases e) (g2 _ _), by simp⟩
theorem neach1_yes {σ : Type} {R : σ → Heap → Prop} {stp : σ → Nat → Int × Int → σ × Bool} {id k0 a : Nat} {cnt : σ → Nat} {ok : σ → Nat → Int × Int → Prop} (ys : YS id k0 cnt ok R stp) {s0 : σ} {H : Heap} (hk : k0 ≤ H.length) (hR : R s0 H) {h : Hd} (hu : h.u) (hok : h.ok) {ps : List (Int × Int)} (hp : ps.length = 28) {rest : List AV} (hc : hfL rest = true) {tk : Tk} 
    (ha : H[a]? = some (.cells [.sl 1 64 (wordsA h ps rest) tk])) (hcnt : cnt s0 = 0) (hokr : okRun ok stp s0 (eachL h.f 0 ps)) :
    ∃ o H', (cbL tab).ic 68 [.yld id, .ptr a 0] H = some (o, H') ∧ o = .ret (.tup []) ∧ R (runY stp s0 (eachL h.f 0 ps)) H' ∧ H.length ≤ H'.length := by
  refine ic_wp (fi := c68) rfl (by simp [pcOn, c68, lend, unown, hfL, AV.hf]) (by simp [c68]) (by decide) ?_
  unfold c68
  have g0 : ∀ o : AObj, (H ++ [o])[a]? = H[a]? := fun o => List.getElem?_append_left (List.getElem?_eq_some_iff.1 ha).1
  have ho := fun H => of_words h hu ps hp rest tk H hc
  simp only [hok, if_true] at ho
  have eN : (ndOf h ps).av = .agg [.int .i64 (h.m - nmark), .int .i64 h.s, .int .u64 h.l, .int .u64 h.f, .int .i64 h.y, slvR 2 pairA (rdL h.f ps)] := rfl
  have so := slvR_one (sz := 2) (f := pairA) (rdL h.f ps)
  rw [eN] at ho
  generalize slvR 2 pairA (rdL h.f ps) = Q at *
  have ew : wordsA h ps rest = .int .u64 h.m :: .int .u64 h.s :: .int .u64 h.l :: .int .u64 h.f :: .int .u64 h.y :: .int .u64 h.a :: .int .u64 h.b :: .int .u64 h.c :: (encs pairA ps ++ rest) := rfl
  have lw : 56 ≤ (encs pairA ps).length + rest.length := by rw [encs_length (f := pairA) (k := 2), hp]; omega
  simp (disch := omega) only [wk, avalE, aactE, evPE, boundE, asNat, bv_seql cellsEq_ii, bv_sneqd cellsEq_ii, readC, allOne, fillL, resE, tupled, ↓reduceIte, Nat.reduceEqDiff, Int.reduceEq, Int.reduceLT, Int.reduceLE, Nat.reduceAdd, Nat.reduceMul, Nat.reduceLT, Nat.reduceLeDiff, reduceCtorEq, flat_yld, one_yld, g0, ha, ho, List.length_append]
  have g2 : ∀ o q : AObj, (H ++ [o, q])[H.length + 1]? = some q := fun o q => by simp
  have g4 : ∀ o q p : AObj, ((H ++ [o, q]).set (H.length + 1) p)[a]? = H[a]? := fun o q p => by
    have := (List.getElem?_eq_some_iff.1 ha).1
    rw [set_ne (by omega), List.getElem?_append_left this]
  simp only [List.append_assoc, List.cons_append, List.nil_append]
  have a1 := fun l r H => each_px l r H
  have a2 := fun left n cs tk H => each33 left 1 n cs tk H
  rw [ew] at ha ho
  simp (disch := omega) only [wk, avalE, aactE, evPE, boundE, asNat, bv_seql cellsEq_ii, bv_sneqd cellsEq_ii, readC, allOne, fillL, resE, tupled, ↓reduceIte, Nat.reduceEqDiff, Int.reduceEq, Int.reduceLT, Int.reduceLE, Nat.reduceAdd, Nat.reduceMul, Nat.reduceLT, Nat.reduceLeDiff, reduceCtorEq, Int.reduceToNat, Int.reduceAdd, Int.reduceSub, Int.reduceMul, Int.reduceNeg, Nat.reduceSub, Nat.reduceDiv, flat_yld, one_yld, g0, g2, g4, ha, so, List.length_append, ew, a1, a2, runE_none l33]
  have hRs : ∀ o q p : AObj, (∀ s, q ≠ .tok s) → R s0 ((H ++ [o, q]).set (H.length + 1) p) := fun o q p hn => ys.set _ _ _ _ _ (by omega) (by rw [show H ++ [o, q] = (H ++ [o]) ++ [q] by simp]; exact ys.push _ _ _ (ys.push _ _ _ hR)) hn (g2 _ _)
  have hR3 := hRs (.cells [.yld id]) (.cells [.int .i64 0, .int .i64 0, .int .u64 0, .int .u64 0, .int .i64 0, .sl 0 0 [] .z]) (.cells [.int .i64 (h.m - nmark), .int .i64 h.s, .int .u64 h.l, .int .u64 h.f, .int .i64 h.y, Q]) (fun s e => by cases e)
  generalize hH3 : (List.set (H ++ [AObj.cells [AV.yld id], _]) (H.length + 1) _) = H3 at hR3 ⊢
  have hy3 : H3[H.length]? = some (.cells [.yld id]) := by rw [← hH3, set_ne (by omega)]; simp
  have l3 : H3.length = H.length + 2 := by rw [← hH3]; simp
  clear hH3
  generalize hHx : H3 ++ [AObj.cells [AV.int IntKind.u64 h.f], _] = Hx
  have lx : Hx.length = H.length + 4 := by rw [← hHx]; simp [l3]
  have upx : ∀ (i : Nat) (q : AObj), H3[i]? = some q → Hx[i]? = some q := fun i q hq => by
    rw [← hHx, List.getElem?_append_left (List.getElem?_eq_some_iff.1 hq).1]; exact hq
  have hRx : R s0 Hx := by
    rw [← hHx, show ∀ q p : AObj, H3 ++ [q, p] = (H3 ++ [q]) ++ [p] from fun q p => by simp]
    exact ys.push _ _ _ (ys.push _ _ _ hR3)
  have hx1 : Hx[H.length + 2]? = some (.cells [.int .u64 h.f]) := by rw [← hHx, ← l3]; simp
  have hx2 : Hx[H.length + 2 + 1]? = some (.cells [row ps rest .ro]) := by rw [← hHx, ← l3, row, hp]; simp
  clear hHx
  refine ret_range (f := 114) (caps := [.ptr (H.length + 2 + 1) 0, .ptr (H.length + 2) 0]) (by simp only [en, ↓reduceIte, Nat.reduceEqDiff, evE_t, l3]) (fun tm hag => ?_)
  have ys2 := ne_ys ys (k := Hx.length) (a := H.length) hag (by simp only [en, ↓reduceIte, Nat.reduceEqDiff]) (by omega) hk
  have up : ∀ (i : Nat) (q : AObj), Hx[i]? = some q → (Hx ++ [.defd, .loop 0 .normal tm [20, 21] nAs nBd])[i]? = some q := fun i q hq => by
    rw [List.getElem?_append_left (List.getElem?_eq_some_iff.1 hq).1]; exact hq
  have hR0 : NeR R Hx.length H.length id tm (s0, false) (Hx ++ [.defd, .loop 0 .normal tm [20, 21] nAs nBd]) :=
    ⟨by rw [show Hx ++ [AObj.defd, .loop 0 .normal tm [20, 21] nAs nBd] = (Hx ++ [.defd]) ++ [.loop 0 .normal tm [20, 21] nAs nBd] by simp]; exact ys.push _ _ _ (ys.push _ _ _ hRx), up _ _ (upx _ _ hy3), by simp, by simp⟩
  obtain ⟨o, H2, hic, rfl, hR2, hle⟩ := each_ic (a := H.length + 2 + 1) (b := H.length + 2) ys2 (by simp) hR0 (up _ _ hx2) (up _ _ hx1) hc rfl (Hd.row hok hp) hcnt (ne_ok stp ok _ _ hokr)
  have e1 := ne_runY stp (eachL h.f 0 ps) s0
  generalize runY (neStp stp) (s0, false) (eachL h.f 0 ps) = fs at hR2 e1
  obtain ⟨s1, b⟩ := fs
  simp only at e1
  subst e1
  obtain ⟨r1, r2, r3, r4⟩ := hR2
  have l2 := (List.getElem?_eq_some_iff.1 r4).1
  simp only at r1 r4
  have fin : ∀ lo' : AObj, H2[Hx.length + 1]? ≠ none → R (runY stp s0 (eachL h.f 0 ps)) ((H2.set (Hx.length + 1) lo').set Hx.length .dead) ∧ H.length ≤ ((H2.set (Hx.length + 1) lo').set Hx.length .dead).length := by
    intro lo' _
    refine ⟨ys.set _ _ _ .defd _ (by omega) (ys.set _ _ _ _ _ (by omega) r1 (fun s e => by revert e; cases b <;> simp) r4) (fun s e => by cases e) (by rw [set_ne (by omega)]; exact r3), by simp; omega⟩
  cases b with
  | true =>
    simp only [if_true] at r4
    refine ⟨_, H2, _, _, _, _, _, _, hic, readLoop_of r4, by decide, rfl, ?_⟩
    have m3 : ∀ lo', (H2.set (Hx.length + 1) lo')[Hx.length]? = some .defd := fun lo' => by rw [set_ne (by omega)]; exact r3
    simp (disch := omega) only [wk, avalE, aactE, evPE, boundE, asNat, bv_seql cellsEq_ii, bv_sneqd cellsEq_ii, readC, allOne, fillL, resE, tupled, ↓reduceIte, Nat.reduceEqDiff, Int.reduceEq, Int.reduceLT, Int.reduceLE, Nat.reduceAdd, Nat.reduceMul, Nat.reduceLT, Nat.reduceLeDiff, reduceCtorEq, ends_mark_n (m3 _)]
    exact fin _ (by rw [r4]; simp)
  | false =>
    simp only [Bool.false_eq_true, if_false] at r4
    refine ⟨_, H2, _, _, _, _, _, _, hic, readLoop_of r4, by decide, rfl, ?_⟩
    have m3 : ∀ lo', (H2.set (Hx.length + 1) lo')[Hx.length]? = some .defd := fun lo' => by rw [set_ne (by omega)]; exact r3
    simp (disch := omega) only [wk, avalE, aactE, evPE, boundE, asNat, bv_seql cellsEq_ii, bv_sneqd cellsEq_ii, readC, allOne, fillL, resE, tupled, ↓reduceIte, Nat.reduceEqDiff, Int.reduceEq, Int.reduceLT, Int.reduceLE, Nat.reduceAdd, Nat.reduceMul, Nat.reduceLT, Nat.reduceLeDiff, reduceCtorEq, ends_mark_n (m3 _)]
    exact fin _ (by rw [r4]; simp)
end Go.Proofs.Ytailfegmnkldoaa
