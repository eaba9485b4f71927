/- THE LAW WalkHolds COMES TO true. No condition but those stated. -/
import Derived.Test.YtmogflndepihnaaDoorWG
import Derived.Test.YtmogflndepihnaaDoorK8
set_option linter.unusedSimpArgs false
set_option linter.unusedVariables false
set_option linter.unusedSectionVars false
namespace Go.Proofs.YtmogflndepihnaaDoor
open Go Go.Am Go.Nam Go.Wlk Go.Rec
set_option maxHeartbeats 4000000
set_option maxRecDepth 10000
theorem ba_self (c : ByteArray) : (c == c) = true := by
  first
    | exact beq_self_eq_true c.data
    | exact decide_eq_true rfl
    | (cases c; simp [BEq.beq])
theorem wd_neq {xo yo : X} {a b d e : Int} {c : ByteArray} : binV .neq (.struct [0, 0, 2, 0, 0]) xo yo (.agg [.int .i64 a, .int .i64 b, .str c, .int .i64 d, .int .i64 e]) (.agg [.int .i64 a, .int .i64 b, .str c, .int .i64 d, .int .i64 e]) = some (.bool false) := by
  have ke : ∀ a : Int, cellEq 0 (.int .i64 a) (.int .i64 a) = some true := cellEq_self
  have ks : cellEq 2 (.str c) (.str c) = some true := by show some (c == c) = _; rw [ba_self]
  show (cellsEq _ _ _).map _ = _
  simp only [cellsEq, ke, ks]
  rfl
theorem wd_eql {xo yo : X} {a b d e : Int} {c : ByteArray} : binV .eql (.struct [0, 0, 2, 0, 0]) xo yo (.agg [.int .i64 a, .int .i64 b, .str c, .int .i64 d, .int .i64 e]) (.agg [.int .i64 a, .int .i64 b, .str c, .int .i64 d, .int .i64 e]) = some (.bool true) := by
  have ke : ∀ a : Int, cellEq 0 (.int .i64 a) (.int .i64 a) = some true := cellEq_self
  have ks : cellEq 2 (.str c) (.str c) = some true := by show some (c == c) = _; rw [ba_self]
  show (cellsEq _ _ _).map _ = _
  simp only [cellsEq, ke, ks]
  rfl
def ownM (l : List Pl) : List Pl := l.filter fun x => x.is.kind != 3
theorem ownM_len (l : List Pl) : (ownM l).length ≤ l.length := List.length_filter_le _ _
theorem walkHolds_pc {x0 x1 : AV} (h0 : OkS .str x0) (h1 : OkS (.slice [.int .i64, .str, .int .i64, .int .i64, .str]) x1) : (cbL tab).pc 10 [x0, x1] = some (.plain (.bool true)) := by
  cases h0 with
  | str s hs =>
  have hb := bs_eta s
  generalize s.data.toList = p at hb
  subst hb
  obtain ⟨l, tk, rfl, hlen, htk⟩ := ok_places h1
  obtain ⟨u1, e1, f1⟩ := lend_sl 5 l.length (encs placeA l) tk
  refine pc_wp (fi := c10) rfl ?_ (by simp [c10]) (by decide) ?_
  · simp only [pcOn, List.map_cons, List.map_nil, hfL, hf_lend_sl, hf_lend_int, hf_lend_bool, hf_lend_str, hfL_append, Bool.and_self, Bool.and_true, Bool.true_and, c10, hf_placeA]
  unfold c10
  rw [List.map_cons, List.map_cons, List.map_nil, e1, lend_str]
  by_cases hp : 1000 < p.length
  · have h' : (1000 : Int) < (p.length : Nat) := by omega
    simp (disch := omega) only [wk, avalE, aactE, evPE, boundE, asNat, bv_seql cellsEq_ii, bv_sneqd cellsEq_ii, readC, allOne, fillL, resE, tupled, ↓reduceIte, Nat.reduceEqDiff, Int.reduceEq, Int.reduceLT, Int.reduceLE, Nat.reduceAdd, Nat.reduceMul, Nat.reduceLT, Nat.reduceLeDiff, reduceCtorEq, bs_size, h', works17_px, purify, unownT, AV.hf]
  have hp1 : ¬ (1000 : Int) < (p.length : Nat) := by omega
  by_cases hl60 : 60 < l.length
  · have h' : (60 : Int) < (l.length : Nat) := by omega
    simp (disch := omega) only [wk, avalE, aactE, evPE, boundE, asNat, bv_seql cellsEq_ii, bv_sneqd cellsEq_ii, readC, allOne, fillL, resE, tupled, ↓reduceIte, Nat.reduceEqDiff, Int.reduceEq, Int.reduceLT, Int.reduceLE, Nat.reduceAdd, Nat.reduceMul, Nat.reduceLT, Nat.reduceLeDiff, reduceCtorEq, bs_size, hp1, h', works17_px, purify, unownT, AV.hf]
  have hl1 : ¬ (60 : Int) < (l.length : Nat) := by omega
  simp (disch := omega) only [wk, avalE, aactE, evPE, boundE, asNat, bv_seql cellsEq_ii, bv_sneqd cellsEq_ii, readC, allOne, fillL, resE, tupled, ↓reduceIte, Nat.reduceEqDiff, Int.reduceEq, Int.reduceLT, Int.reduceLE, Nat.reduceAdd, Nat.reduceMul, Nat.reduceLT, Nat.reduceLeDiff, reduceCtorEq, bs_size, hp1, hl1]
  refine loop_ind (fun (x : List Pl × List Pl) E df H => l = x.1 ++ x.2 ∧ E 0 = .str (bs p) ∧ E 1 = .sl 5 l.length (encs placeA l) u1 ∧ E 6 = .int .i64 (x.1.length : Nat) ∧ df = [] ∧ ∃ v, E 5 = v ∧ Own H 5 v (ownM x.1).length (encs placeA (ownM x.1)) ∧ ∀ s n c, v ≠ .sl s n c .e)
    (fun x => x.2.length) ([], l) (by decide) (.inl rfl) ⟨rfl, rfl, rfl, rfl, rfl, _, rfl, .inl ⟨.inl rfl, rfl, rfl⟩, by intro s n c e; cases e⟩ ?_
  intro ⟨pre, suf⟩ E df H ih hP
  obtain ⟨a1, E0, E1, E6, hdf, v, E5, ho, hne⟩ := hP
  dsimp only at a1 E6 ho
  subst hdf
  have la : l.length = pre.length + suf.length := by rw [a1, List.length_append]
  have lo := ownM_len pre
  cases suf with
  | cons x r =>
    simp only [List.length_cons] at la
    have n1 : (pre.length : Int) < (l.length : Int) := by omega
    have d1 := drop_pl pre x r
    rw [← a1] at d1
    simp only [placeA, List.cons_append, List.nil_append] at d1
    by_cases hk : x.is.kind = 3
    · have hb : (x.is.kind != 3) = false := by rw [hk]; rfl
      have eo : ownM (pre ++ [x]) = ownM pre := by
        unfold ownM
        rw [List.filter_append, List.filter_cons_of_neg (by rw [hb]; decide)]
        simp
      simp (disch := omega) only [wk, avalE, aactE, evPE, boundE, asNat, bv_seql cellsEq_ii, bv_sneqd cellsEq_ii, readC, allOne, fillL, resE, tupled, ↓reduceIte, Nat.reduceEqDiff, Int.reduceEq, Int.reduceLT, Int.reduceLE, Nat.reduceAdd, Nat.reduceMul, Nat.reduceLT, Nat.reduceLeDiff, reduceCtorEq, E0, E1, E5, E6, n1, d1, hk]
      refine ih (pre ++ [x], r) _ _ _ (by simp) ⟨by simp [a1], by simp only [en, ↓reduceIte, Nat.reduceEqDiff, E0], by simp only [en, ↓reduceIte, Nat.reduceEqDiff, E1], by simp only [en, ↓reduceIte, Nat.reduceEqDiff], rfl, v, by simp only [en, ↓reduceIte, Nat.reduceEqDiff, E5], ?_, hne⟩
      dsimp only
      rw [eo]; exact ho
    · have hb : (x.is.kind != 3) = true := by simpa using hk
      have eo : ownM (pre ++ [x]) = ownM pre ++ [x] := by
        unfold ownM
        rw [List.filter_append, List.filter_cons_of_pos (by rw [hb])]
        simp
      simp (disch := omega) only [wk, avalE, aactE, evPE, boundE, asNat, bv_seql cellsEq_ii, bv_sneqd cellsEq_ii, readC, allOne, fillL, resE, tupled, ↓reduceIte, Nat.reduceEqDiff, Int.reduceEq, Int.reduceLT, Int.reduceLE, Nat.reduceAdd, Nat.reduceMul, Nat.reduceLT, Nat.reduceLeDiff, reduceCtorEq, E0, E1, E5, E6, n1, d1, hk]
      refine runX_app ho (by omega) (by omega) (by omega) (by omega) rfl rfl (fun H2 q1 q2 q3 => ?_)
      simp (disch := omega) only [wk, avalE, aactE, evPE, boundE, asNat, bv_seql cellsEq_ii, bv_sneqd cellsEq_ii, readC, allOne, fillL, resE, tupled, ↓reduceIte, Nat.reduceEqDiff, Int.reduceEq, Int.reduceLT, Int.reduceLE, Nat.reduceAdd, Nat.reduceMul, Nat.reduceLT, Nat.reduceLeDiff, reduceCtorEq, E0, E1, E5, E6]
      have ee : encs placeA (ownM pre) ++ [.int .i64 x.dir, .str (bs x.name), .int .i64 x.is.inode, .int .i64 x.is.kind, .str (bs x.is.target)] = encs placeA (ownM pre ++ [x]) := by rw [encs_append]; rfl
      rw [ee] at q1 ⊢
      refine ih (pre ++ [x], r) _ _ _ (by simp) ⟨by simp [a1], by simp only [en, ↓reduceIte, Nat.reduceEqDiff, E0], by simp only [en, ↓reduceIte, Nat.reduceEqDiff, E1], by simp only [en, ↓reduceIte, Nat.reduceEqDiff], rfl, .sl 5 ((ownM pre).length + 1) (encs placeA (ownM pre ++ [x])) (.own H.length), by simp only [en, ↓reduceIte, Nat.reduceEqDiff], ?_, by intro s n c e; cases e⟩
      dsimp only
      rw [eo, List.length_append]
      exact q1
  | nil =>
    have n1 : ¬ (pre.length : Int) < (l.length : Int) := by simp at la; omega
    have hno : ∀ x ∈ ownM pre, x.is.kind ≠ 3 := fun x hx => by
      have := (List.mem_filter.1 hx).2
      simpa using this
    obtain ⟨sz, tv, rfl, hsz⟩ : ∃ sz tv, v = .sl sz (ownM pre).length (encs placeA (ownM pre)) tv ∧ (ownM pre ≠ [] → sz = 5) := by
      rcases ho with ⟨h1 | h1, h2, h3⟩ | ⟨h1, g, h2, h3⟩
      · exact ⟨0, .z, h1, fun h => absurd (List.eq_nil_of_length_eq_zero h2) h⟩
      · exact absurd h1 (hne _ _ _)
      · exact ⟨5, .own g, h2, fun _ => rfl⟩
    simp only [List.length_nil, Nat.add_zero] at la
    generalize ownM pre = own at *
    clear ih a1 ho hne
    have g0 : ∀ (L : List AObj), (H ++ L)[H.length]? = L[0]? := fun L => by rw [List.getElem?_append_right (by omega)]; congr 1; omega
    have gk : ∀ (k : Nat) (L : List AObj), (H ++ L)[H.length + k]? = L[k]? := fun k L => by rw [List.getElem?_append_right (by omega)]; congr 1; omega
    have s0 : ∀ (L : List AObj) (o : AObj), (H ++ L).set H.length o = H ++ L.set 0 o := fun L o => by rw [List.set_append_right _ _ (by omega)]; congr 2; omega
    have sk : ∀ (k : Nat) (L : List AObj) (o : AObj), (H ++ L).set (H.length + k) o = H ++ L.set k o := fun k L o => by rw [List.set_append_right _ _ (by omega)]; congr 2; omega
    have rp := fun H => rparts_px p (by omega) H
    obtain ⟨s2, t2, m1, m2, m3⟩ := slvR_form 1 strA (partsM p)
    unfold rpartsV at rp
    rw [m1] at rp
    by_cases ep : partsE p = 0
    case neg =>
      simp (disch := omega) only [wk, avalE, aactE, evPE, boundE, asNat, bv_seql cellsEq_ii, bv_sneqd cellsEq_ii, readC, allOne, fillL, resE, tupled, ↓reduceIte, Nat.reduceEqDiff, Int.reduceEq, Int.reduceLT, Int.reduceLE, Nat.reduceAdd, Nat.reduceMul, Nat.reduceLT, Nat.reduceLeDiff, reduceCtorEq, E0, E1, E5, E6, n1, rp, ep, works17_px, purify, unownT, AV.hf]
    have hpm : partsM p = cutP p := if_pos ep
    rw [ep, hpm] at rp
    rw [hpm] at m2
    obtain ⟨b1, b2, b3⟩ := cut_small ep
    obtain ⟨o1, o2, o3, o4⟩ := partsE_ok.1 ep
    have fine : Fine (cutP p) := Fine.cut p
    have fz : ∀ q ∈ cutP p, 0 ∉ q ∧ q.length ≤ 120 := fun q hq => ⟨fun h => o3 ((cutP_mem hq).2.2 _ h), o4 q hq⟩
    obtain ⟨ej, _⟩ := parts_short fine fz b1
    have cj : cutP (joinM (cutP p)) = cutP p := cutP_join fine
    have rj := fun H => rjoined_px (cutP p) s2 (encs strA (cutP p)) t2 ⟨[], by simp, rfl⟩ m2 (by omega) (by omega) H
    have go1 := fun H => goes17_px own hno (by omega) sz hsz tv p (by omega) ep H
    have go2 := fun H => goes17_px own hno (by omega) sz hsz tv (joinM (cutP p)) b1 ej H
    rw [cj] at go2
    have sp := fun H => rsplit_px p (by omega) H
    unfold splitV at sp
    rw [if_pos ep] at sp
    have go3 : ∀ pre, Fine pre → (∀ q ∈ pre, 0 ∉ q ∧ q.length ≤ 120) → (joinM pre).length ≤ 1000 → ∀ H, pcx (cbL tab) 40 [.str (bs (joinM pre)), .bool false, .sl sz own.length (encs placeA own) tv] H = some (.plain (.tup [.agg (walkT own 1 pre).cells, .int .i64 0])) := fun pre h1 h2 h3 H => by
      have := goes17_px own hno (by omega) sz hsz tv (joinM pre) h3 (parts_short h1 h2 h3).1 H
      rwa [cutP_join h1] at this
    generalize cutP p = ps at *
    have h140 : ¬ (140 : Int) = 0 := by decide
    rcases last_cases ps with rfl | ⟨pre', nm, rfl⟩
    · have e : ([] : List (List UInt8)).getLast? = none := rfl
      rw [e] at sp
      simp only at sp
      unfold eS at sp
      have rj0 : ∀ H, pcx (cbL tab) 28 [.sl s2 0 [] t2] H = _ := rj
      simp only [List.length_nil, encs_nil] at rp
      unfold Wd.cells at go1 go2
      simp (disch := omega) only [wk, avalE, aactE, evPE, boundE, asNat, bv_seql cellsEq_ii, bv_sneqd cellsEq_ii, readC, allOne, fillL, resE, tupled, ↓reduceIte, Nat.reduceEqDiff, Int.reduceEq, Int.reduceLT, Int.reduceLE, Nat.reduceAdd, Nat.reduceMul, Nat.reduceLT, Nat.reduceLeDiff, reduceCtorEq, E0, E1, E5, E6, n1, rp, rj0, go1, go2, g0, gk, s0, sk, sp, kemp, h140, wd_neq, works17_px, List.append_assoc, purify, unownT, AV.hf]
    have e : (pre' ++ [nm]).getLast? = some nm := by simp
    have ed : (pre' ++ [nm]).dropLast = pre' := by simp
    have z : (pre' ++ [nm]).length = pre'.length + 1 := by simp
    rw [e, ed] at sp
    simp only at sp
    rw [z] at rp rj
    cases hd : dotsM (bs nm) with
    | true =>
      rw [hd] at sp
      simp only [if_true] at sp
      unfold eS at sp
      unfold Wd.cells at go1 go2
      simp (disch := omega) only [wk, avalE, aactE, evPE, boundE, asNat, bv_seql cellsEq_ii, bv_sneqd cellsEq_ii, readC, allOne, fillL, resE, tupled, ↓reduceIte, Nat.reduceEqDiff, Int.reduceEq, Int.reduceLT, Int.reduceLE, Nat.reduceAdd, Nat.reduceMul, Nat.reduceLT, Nat.reduceLeDiff, reduceCtorEq, E0, E1, E5, E6, n1, rp, rj, go1, go2, g0, gk, s0, sk, sp, kemp, h140, wd_neq, works17_px, List.append_assoc, purify, unownT, AV.hf]
    | false =>
      rw [hd] at sp
      simp only [Bool.false_eq_true, if_false] at sp
      have hdd : (nm == [46]) = false ∧ (nm == [46, 46]) = false := by
        have e : dotsM (bs nm) = (((bs nm).toList == [46]) || ((bs nm).toList == [46, 46])) := rfl
        rw [hd, bs_toList] at e
        exact Bool.or_eq_false_iff.1 e.symm
      have hdot : dot nm = false := hdd.1
      have hnd : nm ≠ [46, 46] := by simpa using hdd.2
      have finep : Fine pre' := fun q hq => fine q (by simp [hq])
      have fzp : ∀ q ∈ pre', 0 ∉ q ∧ q.length ≤ 120 := fun q hq => fz q (by simp [hq])
      have jp : (joinM pre').length ≤ 1000 := by
        have := joinM_take (ps := pre' ++ [nm]) pre'.length b1
        rwa [List.take_left] at this
      have g3 := go3 pre' finep fzp jp
      obtain ⟨T1, T2, T3⟩ := holdsT own hdot hnd pre' 1
      generalize walkT own 1 (pre' ++ [nm]) = x at *
      generalize walkT own 1 pre' = zz at *
      have fd := fun H => find_px own sz hsz tv zz.inode nm (by omega) H
      obtain ⟨ze, zd, zn, zi, zk⟩ := zz
      simp only at T1 T2 T3 fd
      unfold Wd.cells at go1 go2 g3
      by_cases hz : ze = 0
      case neg =>
        obtain ⟨t1, t2'⟩ := T1 hz
        obtain ⟨xe, xd, xn, xi, xk⟩ := x
        simp only at t1 t2'
        subst t1 t2'
        simp (disch := omega) only [wk, avalE, aactE, evPE, boundE, asNat, bv_seql cellsEq_ii, bv_sneqd cellsEq_ii, readC, allOne, fillL, resE, tupled, ↓reduceIte, Nat.reduceEqDiff, Int.reduceEq, Int.reduceLT, Int.reduceLE, Nat.reduceAdd, Nat.reduceMul, Nat.reduceLT, Nat.reduceLeDiff, reduceCtorEq, E0, E1, E5, E6, n1, rp, rj, go1, go2, g3, g0, gk, s0, sk, sp, kemp, wd_neq, num17_px, hz, works17_px, List.append_assoc, purify, unownT, AV.hf]
      by_cases hk : zk = 2
      case neg =>
        have t := T2 hz hk
        obtain ⟨xe, xd, xn, xi, xk⟩ := x
        simp only at t
        subst t
        simp (disch := omega) only [wk, avalE, aactE, evPE, boundE, asNat, bv_seql cellsEq_ii, bv_sneqd cellsEq_ii, readC, allOne, fillL, resE, tupled, ↓reduceIte, Nat.reduceEqDiff, Int.reduceEq, Int.reduceLT, Int.reduceLE, Nat.reduceAdd, Nat.reduceMul, Nat.reduceLT, Nat.reduceLeDiff, reduceCtorEq, E0, E1, E5, E6, n1, rp, rj, go1, go2, g3, g0, gk, s0, sk, sp, kemp, wd_neq, num17_px, hz, hk, works17_px, List.append_assoc, purify, unownT, AV.hf]
      have t := T3 hz hk
      subst hz hk
      cases hf : findM own zi nm with
      | none =>
        rw [hf] at t fd
        simp only at t
        subst t
        simp only [Option.getD_none, Option.isSome_none, zeroF, Fnd.cells] at fd
        simp (disch := omega) only [wk, avalE, aactE, evPE, boundE, asNat, bv_seql cellsEq_ii, bv_sneqd cellsEq_ii, readC, allOne, fillL, resE, tupled, ↓reduceIte, Nat.reduceEqDiff, Int.reduceEq, Int.reduceLT, Int.reduceLE, Nat.reduceAdd, Nat.reduceMul, Nat.reduceLT, Nat.reduceLeDiff, reduceCtorEq, E0, E1, E5, E6, n1, rp, rj, go1, go2, g3, g0, gk, s0, sk, sp, kemp, wd_neq, wd_eql, num17_px, fd, works17_px, List.append_assoc, purify, unownT, AV.hf]
      | some f =>
        rw [hf] at t fd
        simp only at t
        subst t
        simp only [Option.getD_some, Option.isSome_some] at fd
        unfold Fnd.cells at fd
        simp (disch := omega) only [wk, avalE, aactE, evPE, boundE, asNat, bv_seql cellsEq_ii, bv_sneqd cellsEq_ii, readC, allOne, fillL, resE, tupled, ↓reduceIte, Nat.reduceEqDiff, Int.reduceEq, Int.reduceLT, Int.reduceLE, Nat.reduceAdd, Nat.reduceMul, Nat.reduceLT, Nat.reduceLeDiff, reduceCtorEq, E0, E1, E5, E6, n1, rp, rj, go1, go2, g3, g0, gk, s0, sk, sp, kemp, wd_neq, wd_eql, num17_px, fd, works17_px, List.append_assoc, purify, unownT, AV.hf]
end Go.Proofs.YtmogflndepihnaaDoor
