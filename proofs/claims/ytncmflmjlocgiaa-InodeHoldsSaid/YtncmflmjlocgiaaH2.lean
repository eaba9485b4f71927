/- THE LAW InodeHolds COMES TO true. No condition but those stated. -/
import Derived.Test.YtncmflmjlocgiaaH0
import Derived.Test.YtncmflmjlocgiaaLSa
set_option linter.unusedSimpArgs false
set_option linter.unusedVariables false
set_option linter.unusedSectionVars false
namespace Go.Proofs.Ytncmflmjlocgiaa
open Go Go.Am Go.Rec Go.Ino
set_option maxHeartbeats 4000000
set_option maxRecDepth 10000
theorem ok_arr : ∀ (k : Nat) (xs : List AV), OkL (List.replicate k (.int .u64)) xs → ∃ ws : List Int, xs = encs u64A ws ∧ ws.length = k ∧ ∀ x ∈ ws, 0 ≤ x ∧ x < 18446744073709551616
  | 0, xs, h => ⟨[], by have := h.1; simp at this; subst this; rfl, rfl, fun x hx => by simp at hx⟩
  | k + 1, [], h => by have := h.1; simp at this
  | k + 1, v :: r, h => by
    obtain ⟨hl, hi⟩ := h
    have h0 := hi 0 (.int .u64) v (by simp) rfl
    obtain ⟨ws, k1, k2, k3⟩ := ok_arr k r ⟨by simpa using hl, fun i s x hs hx => hi (i + 1) s x (by rw [List.replicate_succ, List.getElem?_cons_succ]; exact hs) (by rw [List.getElem?_cons_succ]; exact hx)⟩
    cases h0 with
    | int _ n b1 b2 =>
      have b1 : 0 ≤ n := b1
      have b2 : n ≤ 18446744073709551615 := b2
      refine ⟨n :: ws, by rw [k1, encs_cons]; rfl, by simp [k2], fun x hx => ?_⟩
      rcases List.mem_cons.1 hx with rfl | hx
      · exact ⟨b1, by omega⟩
      · exact k3 x hx
theorem ofM_words {n : Ino} (h : okI n) {W : List Int} (hW : W = wordsI n) (wid : Nat) (H : Heap) (hwd : H[wid]? = some (.cells (encs u64A W))) :
    ∃ H', (cbL tab).ic 33 [.msl 1 wid 0 16] H = some (.ret (ofIV n 0), H') ∧ H.length ≤ H'.length ∧ ∀ k, k < H.length → H'[k]? = H[k]? := by
  obtain ⟨w0, w1, w2, w3, r, e, hw⟩ := wordsI_shape h
  rw [hW, e] at hwd
  have hd := decI_words h e
  have := ofM_ic w0 w1 w2 w3 r hw (.inr ⟨by rw [hd]; exact h, by rw [hd]; exact e⟩) wid H hwd
  rw [ofI_words h e] at this
  exact this
theorem okI_links {n : Ino} (h : okI n) {k : Int} (h0 : 0 ≤ k) (h1 : k ≤ 65535) (hk : n.kind ≠ 0) : okI { n with links := k } := by
  obtain ⟨_, _, hb | hb | hb | hb⟩ := h
  · exact absurd hb.1 hk
  · exact ⟨h0, h1, .inr (.inl hb)⟩
  · exact ⟨h0, h1, .inr (.inr (.inl hb))⟩
  · exact ⟨h0, h1, .inr (.inr (.inr hb))⟩
theorem wordsI_links (n : Ino) (k : Int) : wordsI { n with links := k } = (wordsI n).set 0 (n.kind + 256 * k) := rfl
theorem inodeHolds_pc {xs ys : List AV} {z : AV} (h : OkL [.int .u64, .int .u64, .int .u64, .int .u64, .int .u64, .int .u64, .int .u64, .int .u64, .int .u64, .int .u64, .int .u64, .int .u64, .int .u64, .int .u64, .int .u64, .int .u64] xs) (h' : OkL shI ys) (hz : OkS (.int .i64) z) :
    (cbL tab).pc 13 [.agg xs, .agg ys, z] = some (.plain (.bool true)) := by
  obtain ⟨was, rfl, hw16, hwr⟩ := ok_arr 16 xs h
  obtain ⟨n, m, e1, hm, _⟩ := okL_ino h'
  cases hz with
  | int _ k b1 b2 =>
  rw [e1]
  have la : lend (.agg (encs u64A was)) = .agg (encs u64A was) := by
    show AV.agg ((encs u64A was).map unown) = _
    have : ∀ l : List Int, (encs u64A l).map unown = encs u64A l := by
      intro l
      induction l with
      | nil => rfl
      | cons x r ih => rw [encs_cons, List.map_append, ih]; rfl
    rw [this]
  have ho1 : allOne (encs u64A was) = true := one_u64A _
  refine pc_wp (fi := c13) rfl ?_ (by simp [c13]) (by decide) ?_
  · simp only [pcOn, c13, List.map_cons, List.map_nil, la, lend_int, lend_inoA hm, hfL, hf_inoA hm, AV.hf, hf_u64A]; rfl
  unfold c13
  rw [List.map_cons, List.map_cons, List.map_cons, List.map_nil, la, lend_inoA hm, lend_int]
  have fa := fun H => few_px n m hm H
  have m1 := hm.one.1
  have m2 := hm.one.2
  by_cases c1 : n.map.length ≤ 30 ∧ n.target.size ≤ 300
  case neg =>
    have c1' : decide (n.map.length ≤ 30 ∧ n.target.size ≤ 300) = false := decide_eq_false c1
    clear c1
    simp only [inoA] at fa ⊢
    simp (disch := omega) only [wk, avalE, aactE, evPE, boundE, asNat, bv_seql cellsEq_ii, bv_sneqd cellsEq_ii, readC, allOne, fillL, resE, tupled, ↓reduceIte, Nat.reduceEqDiff, Int.reduceEq, Int.reduceLT, Int.reduceLE, Nat.reduceAdd, Nat.reduceMul, Nat.reduceLT, Nat.reduceLeDiff, reduceCtorEq, ho1, m1, m2, fa, c1', works_px, purify, unownT, AV.hf]
  have c1' : decide (n.map.length ≤ 30 ∧ n.target.size ≤ 300) = true := decide_eq_true c1
  have hn30 := c1.1
  clear c1
  have s1 := fun H => storesI_px 5 was 1 .ro n m hm (by omega) H (by decide) (by decide) (fun _ => rfl) (by omega)
  have ck := fun H => check_px n m hm (by omega) H
  have l16 : (encs u64A was).length = 16 := by rw [lenU, hw16]
  have tk16 : List.take 16 (encs u64A was) = encs u64A was := List.take_of_length_le (by omega)
  have i16 : 0 < 16 := by decide
  have h16c : ((16 : Nat) : Int) = 16 := rfl
  have i0 : (0 : Int).toNat = 0 := rfl
  rw [hw16] at s1
  by_cases ho : okI n
  case neg =>
    have sv : slvR 2 putA [] = .sl 0 0 [] .z := rfl
    rw [storesI_no (fun h => ho h.1)] at s1
    rw [checkI_no ho] at ck
    simp only [resP, sv, inoA] at s1 ck fa ⊢
    simp (disch := omega) only [wk, avalE, aactE, evPE, boundE, asNat, bv_seql cellsEq_ii, bv_sneqd cellsEq_ii, readC, allOne, fillL, resE, tupled, ↓reduceIte, Nat.reduceEqDiff, Int.reduceEq, Int.reduceLT, Int.reduceLE, Nat.reduceAdd, Nat.reduceMul, Nat.reduceLT, Nat.reduceLeDiff, reduceCtorEq, ho1, m1, m2, fa, c1', s1, ck, l16, tk16, num_px, works_px, purify, unownT, AV.hf]
  have hl16 := wordsI_len ho
  rw [storesI_ok ho hw16] at s1
  obtain ⟨L, hL⟩ : ∃ L, L = difF 5 0 (wordsI n) was := ⟨_, rfl⟩
  have lL : L.length ≤ 16 := by have := difF_len 5 (wordsI n) was 0; rw [hL]; omega
  obtain ⟨s, t, k1, k2⟩ := slvP_f L
  rw [← hL] at s1
  simp only [resP, k1] at s1
  simp only [inoA] at s1 fa ⊢
  have te : Tk.e.empty = true := rfl
  simp (disch := omega) only [wk, avalE, aactE, evPE, boundE, asNat, bv_seql cellsEq_ii, bv_sneqd cellsEq_ii, readC, allOne, fillL, resE, tupled, ↓reduceIte, Nat.reduceEqDiff, Int.reduceEq, Int.reduceLT, Int.reduceLE, Nat.reduceAdd, Nat.reduceMul, Nat.reduceLT, Nat.reduceLeDiff, reduceCtorEq, ho1, m1, m2, fa, c1', s1, l16, tk16, i16, num_px, te, List.append_nil]
  refine loop_ind (fun (x : Nat × Nat) E df H => x.1 ≤ L.length ∧ x.2 ≤ 16 ∧ L.drop x.1 = difF 5 x.2 ((wordsI n).drop x.2) (was.drop x.2) ∧ E 2 = .int .i64 k ∧ E 4 = .ptr 0 0 ∧ E 7 = .sl s L.length (encs putA L) t ∧ E 9 = .msl 1 1 0 16 ∧ E 10 = .int .i64 (x.1 : Nat) ∧ df = [] ∧ H[0]? = some (.cells (inoC n m)) ∧ H[1]? = some (.cells (encs u64A (mixI (wordsI n) was x.2))))
    (fun x => L.length - x.1) (0, 0) (by decide) (.inl rfl) ⟨by omega, by omega, hL, rfl, rfl, rfl, rfl, rfl, rfl, rfl, rfl⟩ ?_
  intro ⟨a, j⟩ E df H ih hP
  obtain ⟨a1, a2, a3, E2, E4, E7, E9, E10, hdf, hH0, hH1⟩ := hP
  dsimp only at a1 a2 a3 E10 hH1
  subst hdf
  by_cases hk2 : a = L.length
  · subst hk2
    have hd0 : difF 5 j ((wordsI n).drop j) (was.drop j) = [] := by rw [← a3, List.drop_length]
    have hmix : mixI (wordsI n) was j = wordsI n := by
      rw [mixI, ← difF_nil 5 _ _ j (by rw [List.length_drop, List.length_drop, hl16, hw16]) hd0, List.take_append_drop]
    rw [hmix] at hH1
    have nlt : ¬ (L.length : Int) < (L.length : Int) := by omega
    have e0 := ofM_none 1
    obtain ⟨w0, w1, w2, w3, r, ew, hw⟩ := wordsI_shape ho
    obtain ⟨H2, q1, q2, q3⟩ := ofM_words ho rfl 1 H hH1
    have hlH : 1 < H.length := (List.getElem?_eq_some_iff.1 hH1).1
    have r0 : H2[0]? = some (.cells (inoC n m)) := by rw [q3 0 (by omega)]; exact hH0
    have r1 : H2[1]? = some (.cells (encs u64A (wordsI n))) := by rw [q3 1 (by omega)]; exact hH1
    have sm := fun H => same_px' n n (mapV n.map) m (MapR.of n.map) hm (by omega) (by omega) H
    have sb : sameB n n = true := sameB_iff.2 rfl
    rw [sb] at sm
    have mm1 := (MapR.of n.map).one.1
    have mm2 := (MapR.of n.map).one.2
    have g0w : (encs u64A (wordsI n))[0]? = some (.int .u64 w0) := by rw [encs_mapU, List.getElem?_map, ew]; rfl
    have dw : encs u64A (wordsI n) = .int .u64 w0 :: encs u64A (w1 :: w2 :: w3 :: r) := by rw [ew]; rfl
    have hk := okI_kind ho
    have l0 := ho.1
    have l1 := ho.2.1
    have ew0 : w0 = n.kind + 256 * n.links := by have := congrArg (List.head?) ew; simpa [wordsI] using this.symm
    have lk := fun H => linked_px w0 k (by omega) (by omega) H
    have lw : (encs u64A (wordsI n)).length = 16 := by rw [lenU, hl16]
    simp only [inoC, ofIV, inoA] at r0 sm q1
    have t0 : 0 < H2.length := by omega
    have t1 : 1 < H2.length := by omega
    have b0 : ∀ L : List AObj, (H2 ++ L)[H2.length]? = L[0]? := fun L => by rw [List.getElem?_append_right (by omega)]; congr 1; omega
    have b1 : ∀ (L : List AObj) (o : AObj), (H2 ++ L).set H2.length o = H2 ++ L.set 0 o := fun L o => by rw [List.set_append_right _ _ (by omega)]; congr 2; omega
    have b2 : ∀ L : List AObj, (H2 ++ L)[0]? = H2[0]? := fun L => List.getElem?_append_left t0
    have b3 : ∀ L : List AObj, (H2 ++ L)[1]? = H2[1]? := fun L => List.getElem?_append_left t1
    have b4 : ∀ (L : List AObj) (o : AObj), (H2 ++ L).set 0 o = H2.set 0 o ++ L := fun L o => List.set_append_left _ _ t0
    have b5 : ∀ (L : List AObj) (o : AObj), (H2.set 0 o ++ L)[0]? = some o := fun L o => by rw [List.getElem?_append_left (by rw [List.length_set]; exact t0), List.getElem?_set_self t0]
    have b6 : ∀ (L : List AObj) (o : AObj), (H2.set 0 o ++ L)[1]? = some (.cells (encs u64A (wordsI n))) := fun L o => by rw [List.getElem?_append_left (by rw [List.length_set]; exact t1), List.getElem?_set_ne (by decide)]; exact r1
    have b7 : ∀ (L : List AObj) (o : AObj), (H2.set 0 o ++ L)[H2.length]? = L[0]? := fun L o => by rw [List.getElem?_append_right (by rw [List.length_set]; omega)]; congr 1; rw [List.length_set]; omega
    by_cases hbad : n.kind = 0 ∨ k < 0 ∨ 65535 < k
    · have eL : linkedM w0 k = (0, 240) := if_neg (fun h => by omega)
      rw [eL] at lk
      simp only [linkedR] at lk
      by_cases n0 : n.kind = 0
      · have d0 : decide (n.kind = 0) = true := decide_eq_true n0
        simp (disch := omega) only [wk, avalE, aactE, evPE, boundE, asNat, bv_seql cellsEq_ii, bv_sneqd cellsEq_ii, readC, allOne, fillL, resE, tupled, ↓reduceIte, Nat.reduceEqDiff, Int.reduceEq, Int.reduceLT, Int.reduceLE, Nat.reduceAdd, Nat.reduceMul, Nat.reduceLT, Nat.reduceLeDiff, reduceCtorEq, E2, E4, E7, E9, E10, h16c, nlt, i0, e0, runE_none lof, q1, r0, r1, mm1, mm2, m1, m2, num_px, sm, g0w, lw, lk, b0, b1, b2, b3, b4, b5, b6, b7, d0, works_px, purify, unownT, AV.hf]
      have d0 : decide (n.kind = 0) = false := decide_eq_false n0
      by_cases n1 : k < 0
      · simp (disch := omega) only [wk, avalE, aactE, evPE, boundE, asNat, bv_seql cellsEq_ii, bv_sneqd cellsEq_ii, readC, allOne, fillL, resE, tupled, ↓reduceIte, Nat.reduceEqDiff, Int.reduceEq, Int.reduceLT, Int.reduceLE, Nat.reduceAdd, Nat.reduceMul, Nat.reduceLT, Nat.reduceLeDiff, reduceCtorEq, E2, E4, E7, E9, E10, h16c, nlt, i0, e0, runE_none lof, q1, r0, r1, mm1, mm2, m1, m2, num_px, sm, g0w, lw, lk, b0, b1, b2, b3, b4, b5, b6, b7, d0, n1, works_px, purify, unownT, AV.hf]
      have n2 : 65535 < k := by omega
      simp (disch := omega) only [wk, avalE, aactE, evPE, boundE, asNat, bv_seql cellsEq_ii, bv_sneqd cellsEq_ii, readC, allOne, fillL, resE, tupled, ↓reduceIte, Nat.reduceEqDiff, Int.reduceEq, Int.reduceLT, Int.reduceLE, Nat.reduceAdd, Nat.reduceMul, Nat.reduceLT, Nat.reduceLeDiff, reduceCtorEq, E2, E4, E7, E9, E10, h16c, nlt, i0, e0, runE_none lof, q1, r0, r1, mm1, mm2, m1, m2, num_px, sm, g0w, lw, lk, b0, b1, b2, b3, b4, b5, b6, b7, d0, n1, n2, works_px, purify, unownT, AV.hf]
    · have d0 : decide (n.kind = 0) = false := decide_eq_false (by omega)
      have n1 : ¬ k < 0 := by omega
      have n2 : ¬ 65535 < k := by omega
      have eL : linkedM w0 k = (n.kind + 256 * k, 0) := by
        have : linkedM w0 k = (w0 % 256 + 256 * k, 0) := if_pos ⟨by omega, by omega, by omega⟩
        rw [this, ew0]
        have : (n.kind + 256 * n.links) % 256 = n.kind := by omega
        rw [this]
      rw [eL] at lk
      simp only [linkedR] at lk
      have hbad' : n.kind ≠ 0 := by omega
      clear hbad
      have l7 : AV.int .i64 n.kind :: AV.int .i64 k :: AV.int .i64 n.size :: m :: AV.int .i64 n.root :: AV.int .i64 n.parent :: AV.str n.target :: [] = inoC { n with links := k } m := rfl
      simp (disch := omega) only [wk, avalE, aactE, evPE, boundE, asNat, bv_seql cellsEq_ii, bv_sneqd cellsEq_ii, readC, allOne, fillL, resE, tupled, ↓reduceIte, Nat.reduceEqDiff, Int.reduceEq, Int.reduceLT, Int.reduceLE, Nat.reduceAdd, Nat.reduceMul, Nat.reduceLT, Nat.reduceLeDiff, reduceCtorEq, E2, E4, E7, E9, E10, h16c, nlt, i0, e0, runE_none lof, q1, r0, r1, mm1, mm2, m1, m2, num_px, sm, g0w, lw, lk, b0, b1, b2, b3, b4, b5, b6, b7, d0, n1, n2]
      obtain ⟨n', hn'⟩ : ∃ n' : Ino, n' = { n with links := k } := ⟨_, rfl⟩
      have ho' : okI n' := by rw [hn']; exact okI_links ho (by omega) (by omega) hbad'
      obtain ⟨H3, hH3⟩ : ∃ H3 : Heap, H3 = ((List.set H2 0 (AObj.cells [AV.int IntKind.i64 n.kind, AV.int IntKind.i64 k, AV.int IntKind.i64 n.size, m, AV.int IntKind.i64 n.root, AV.int IntKind.i64 n.parent, AV.str n.target]) ++
            [AObj.cells [AV.int IntKind.i64 n.kind, AV.int IntKind.i64 n.links, AV.int IntKind.i64 n.size, mapV n.map, AV.int IntKind.i64 n.root, AV.int IntKind.i64 n.parent, AV.str n.target]]).set
        1 (AObj.cells (AV.int IntKind.u64 (n.kind + 256 * k) :: List.drop 1 (encs u64A (wordsI n))))) := ⟨_, rfl⟩
      rw [← hH3]
      have c0 : H3[0]? = some (.cells (inoC n' m)) := by rw [hH3, List.getElem?_set_ne (by decide), b5, hn']; rfl
      have c1 : H3[1]? = some (.cells (encs u64A ((wordsI n).set 0 (n.kind + 256 * k)))) := by
        rw [hH3, List.getElem?_set_self (by rw [List.length_append, List.length_set]; omega), ew]; rfl
      have c2 : H3[H2.length]? = some (.cells [AV.int IntKind.i64 n.kind, AV.int IntKind.i64 n.links, AV.int IntKind.i64 n.size, mapV n.map, AV.int IntKind.i64 n.root, AV.int IntKind.i64 n.parent, AV.str n.target]) := by
        rw [hH3, List.getElem?_set_ne (by omega), b7]; rfl
      have lH3 : H3.length = H2.length + 1 := by rw [hH3]; simp
      obtain ⟨H4, p1, p2, p3⟩ := ofM_words ho' (W := (wordsI n).set 0 (n.kind + 256 * k)) (by rw [hn']; exact (wordsI_links n k).symm) 1 H3 c1
      have f0 : H4[0]? = some (.cells (inoC n' m)) := by rw [p3 0 (by omega)]; exact c0
      have f2 : H4[H2.length]? = some (.cells [AV.int IntKind.i64 n.kind, AV.int IntKind.i64 n.links, AV.int IntKind.i64 n.size, mapV n.map, AV.int IntKind.i64 n.root, AV.int IntKind.i64 n.parent, AV.str n.target]) := by rw [p3 _ (by omega)]; exact c2
      have f3 : ∀ o, (H4.set H2.length o)[H2.length]? = some o := fun o => List.getElem?_set_self (List.getElem?_eq_some_iff.1 f2).1
      have f4 : ∀ o, (H4.set H2.length o)[0]? = some (.cells (inoC n' m)) := fun o => by rw [List.getElem?_set_ne (by omega)]; exact f0
      have em : n'.map = n.map := by rw [hn']
      have sm' := fun H => same_px' n' n' (mapV n'.map) m (MapR.of n'.map) (by rw [em]; exact hm) (by rw [em]; omega) (by rw [em]; omega) H
      have sb' : sameB n' n' = true := sameB_iff.2 rfl
      rw [sb'] at sm'
      have mm1' := (MapR.of n'.map).one.1
      have mm2' := (MapR.of n'.map).one.2
      simp only [ofIV, inoA] at p1 sm'
      unfold inoC at f4 f0
      simp (disch := omega) only [wk, avalE, aactE, evPE, boundE, asNat, bv_seql cellsEq_ii, bv_sneqd cellsEq_ii, readC, allOne, fillL, resE, tupled, ↓reduceIte, Nat.reduceEqDiff, Int.reduceEq, Int.reduceLT, Int.reduceLE, Nat.reduceAdd, Nat.reduceMul, Nat.reduceLT, Nat.reduceLeDiff, reduceCtorEq, E2, E4, E7, E9, E10, i0, p1, f0, f2, f3, f4, mm1', mm2', m1, m2, num_px, sm', works_px, purify, unownT, AV.hf]
  · have hlt : a < L.length := by omega
    have hs : s = 2 := k2 (fun e => by rw [e] at hlt; simp at hlt)
    subst hs
    have hlt' : (a : Int) < (L.length : Int) := by omega
    have hg := List.getElem?_eq_getElem hlt
    obtain ⟨⟨p, v⟩, hpv⟩ : ∃ q, q = L[a] := ⟨_, rfl⟩
    rw [← hpv] at hg
    rw [List.drop_eq_getElem_cons hlt, ← hpv] at a3
    obtain ⟨i, y, h1, h2, h3, h4, h5, h6⟩ := difF_cons _ _ _ _ _ _ _ (by rw [List.length_drop, List.length_drop, hl16, hw16]) a3.symm
    obtain ⟨q1, q2, q3⟩ := mix_step (by rw [hl16, hw16]) h2 h3 h5
    rw [List.drop_drop, List.drop_drop, ← Nat.add_assoc] at h6
    have ml := mix_len (W := wordsI n) (v := was) (by rw [hl16, hw16]) (j := j) (by omega)
    rw [hl16] at ml q3
    have e0 : (p - 5).toNat = j + i := by omega
    have dk := drop_at' (f := putA) L a hg
    simp only [putA, List.cons_append, List.nil_append] at dk
    have dm := drop_at' (f := u64A) (mixI (wordsI n) was j) (j + i) q1
    simp only [u64A, List.cons_append, List.nil_append, Nat.mul_one] at dm
    have dg : (encs u64A (mixI (wordsI n) was j))[j + i]? = some (.int .u64 y) := by rw [encs_mapU, List.getElem?_map, q1]; rfl
    have nk1 : ¬ p < 5 := by omega
    have nk2 : ¬ 20 < p := by omega
    have am : 0 ≤ p - 5 ∧ p - 5 < 16 := by omega
    have su := setU (mixI (wordsI n) was j) (j + i) v (by omega)
    rw [q2] at su
    have lw : (encs u64A (mixI (wordsI n) was j)).length = 16 := by rw [lenU, ml]
    have al : j + i + 1 ≤ 16 := by omega
    simp (disch := omega) only [wk, avalE, aactE, evPE, boundE, asNat, bv_seql cellsEq_ii, bv_sneqd cellsEq_ii, readC, allOne, fillL, resE, tupled, ↓reduceIte, Nat.reduceEqDiff, Int.reduceEq, Int.reduceLT, Int.reduceLE, Nat.reduceAdd, Nat.reduceMul, Nat.reduceLT, Nat.reduceLeDiff, reduceCtorEq, E2, E4, E7, E9, E10, h16c, hlt', hH1, dk, dg, nk1, nk2, am, e0, dm, h4, Nat.zero_add, su, lw, al, List.append_nil]
    refine ih (a + 1, j + i + 1) _ _ _ (by dsimp only; omega) ?_
    exact ⟨by dsimp only; omega, by dsimp only; omega, h6, by simp only [en, ↓reduceIte, Nat.reduceEqDiff, E2], by simp only [en, ↓reduceIte, Nat.reduceEqDiff, E4], by simp only [en, ↓reduceIte, Nat.reduceEqDiff, E7], by simp only [en, ↓reduceIte, Nat.reduceEqDiff, E9], by simp only [en, ↓reduceIte, Nat.reduceEqDiff], rfl, (List.getElem?_set_ne (by omega)).trans hH0, List.getElem?_set_self (List.getElem?_eq_some_iff.1 hH1).1⟩
end Go.Proofs.Ytncmflmjlocgiaa
