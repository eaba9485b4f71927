/- THE WALKS OF may, settled AND Check. No condition but those stated. -/
import Derived.Test.YtailfegmnkldoaaN3
set_option linter.unusedSimpArgs false
set_option linter.unusedVariables false
set_option linter.unusedSectionVars false
namespace Go.Proofs.Ytailfegmnkldoaa
open Go Go.Am Go.Slots Go.Nod
set_option maxHeartbeats 8000000
set_option maxRecDepth 10000
/-- A node's cells, its pairs as they are handed on. -/
def Nd.cs (n : Nd) : List AV := n.cells (slvR 2 pairA n.ps)
theorem av_cs (n : Nd) : n.av = .agg (Nd.cs n) := rfl
theorem lend_Nd (n : Nd) : lend n.av = n.av := by
  simp only [Nd.av, Nd.cells, lend, List.map_cons, List.map_nil, slvR_unown]
  rfl
theorem lend_Nc (n : Nd) : lend (.agg (Nd.cs n)) = .agg (Nd.cs n) := lend_Nd n
theorem hf_Nc (n : Nd) : (AV.agg (Nd.cs n)).hf = true := hf_Nd n
theorem one_Nc (n : Nd) : allOne (Nd.cs n) = true := by
  simp only [Nd.cs, Nd.cells, allOne, slvR_one]
  rfl
theorem may_px (n : Nd) (p : Int × Int) (H : Heap) : pcx (cbL tab) 94 [.agg (Nd.cs n), .agg (pairA p)] H = some (.plain (.bool (decide (mayN n.v n.l p)))) := by
  obtain ⟨k, q⟩ := p
  have ep : lend (.agg (pairA (k, q))) = .agg (pairA (k, q)) := rfl
  refine pcx_N rfl (pc_wp (fi := c94) rfl ?_ (by simp [c94]) (by decide) ?_)
  · simp only [pcOn, c94, List.map_cons, List.map_nil, lend_Nc, ep, hfL, hf_Nc, Bool.true_and]; rfl
  unfold c94
  rw [List.map_cons, List.map_cons, List.map_nil, ep, lend_Nc]
  have on := one_Nc n
  have bl := block_px
  obtain ⟨v, s, l, f, y, ps⟩ := n
  simp only [Nd.cs, Nd.cells] at on ⊢
  generalize slvR 2 pairA ps = P at *
  have o1 : AV.one P = true := by
    simp only [allOne, Bool.and_eq_true] at on
    exact on.2.2.2.2.2.1
  by_cases hv : v = 0
  · by_cases h1 : 1 ≤ q
    · by_cases h2 : q ≤ 1099511627776
      · by_cases h3 : l ≤ k
        · simp (disch := omega) only [wk, avalE, aactE, evPE, boundE, asNat, bv_seql cellsEq_ii, bv_sneqd cellsEq_ii, readC, allOne, fillL, resE, tupled, ↓reduceIte, Nat.reduceEqDiff, Int.reduceEq, Int.reduceLT, Int.reduceLE, Nat.reduceAdd, Nat.reduceMul, Nat.reduceLT, Nat.reduceLeDiff, reduceCtorEq, pairA, o1, hv, h1, h2, h3, mayN, purify, unownT, lend, unown, AV.hf, runG_un]
        · simp (disch := omega) only [wk, avalE, aactE, evPE, boundE, asNat, bv_seql cellsEq_ii, bv_sneqd cellsEq_ii, readC, allOne, fillL, resE, tupled, ↓reduceIte, Nat.reduceEqDiff, Int.reduceEq, Int.reduceLT, Int.reduceLE, Nat.reduceAdd, Nat.reduceMul, Nat.reduceLT, Nat.reduceLeDiff, reduceCtorEq, pairA, o1, hv, h1, h2, h3, mayN, purify, unownT, lend, unown, AV.hf, runG_un, and_false]
      · simp (disch := omega) only [wk, avalE, aactE, evPE, boundE, asNat, bv_seql cellsEq_ii, bv_sneqd cellsEq_ii, readC, allOne, fillL, resE, tupled, ↓reduceIte, Nat.reduceEqDiff, Int.reduceEq, Int.reduceLT, Int.reduceLE, Nat.reduceAdd, Nat.reduceMul, Nat.reduceLT, Nat.reduceLeDiff, reduceCtorEq, pairA, o1, hv, h1, h2, mayN, purify, unownT, lend, unown, AV.hf, runG_un, and_false, false_and]
    · simp (disch := omega) only [wk, avalE, aactE, evPE, boundE, asNat, bv_seql cellsEq_ii, bv_sneqd cellsEq_ii, readC, allOne, fillL, resE, tupled, ↓reduceIte, Nat.reduceEqDiff, Int.reduceEq, Int.reduceLT, Int.reduceLE, Nat.reduceAdd, Nat.reduceMul, Nat.reduceLT, Nat.reduceLeDiff, reduceCtorEq, pairA, o1, hv, h1, mayN, purify, unownT, lend, unown, AV.hf, runG_un, and_false, false_and]
  · by_cases h1 : blockI q
    · by_cases h3 : l < k
      · simp (disch := omega) only [wk, avalE, aactE, evPE, boundE, asNat, bv_seql cellsEq_ii, bv_sneqd cellsEq_ii, readC, allOne, fillL, resE, tupled, ↓reduceIte, Nat.reduceEqDiff, Int.reduceEq, Int.reduceLT, Int.reduceLE, Nat.reduceAdd, Nat.reduceMul, Nat.reduceLT, Nat.reduceLeDiff, reduceCtorEq, pairA, o1, hv, bl, h1, h3, mayN, purify, unownT, lend, unown, AV.hf, runG_un]
      · simp (disch := omega) only [wk, avalE, aactE, evPE, boundE, asNat, bv_seql cellsEq_ii, bv_sneqd cellsEq_ii, readC, allOne, fillL, resE, tupled, ↓reduceIte, Nat.reduceEqDiff, Int.reduceEq, Int.reduceLT, Int.reduceLE, Nat.reduceAdd, Nat.reduceMul, Nat.reduceLT, Nat.reduceLeDiff, reduceCtorEq, pairA, o1, hv, bl, h1, h3, mayN, purify, unownT, lend, unown, AV.hf, runG_un, and_false]
    · simp (disch := omega) only [wk, avalE, aactE, evPE, boundE, asNat, bv_seql cellsEq_ii, bv_sneqd cellsEq_ii, readC, allOne, fillL, resE, tupled, ↓reduceIte, Nat.reduceEqDiff, Int.reduceEq, Int.reduceLT, Int.reduceLE, Nat.reduceAdd, Nat.reduceMul, Nat.reduceLT, Nat.reduceLeDiff, reduceCtorEq, pairA, o1, hv, bl, h1, mayN, purify, unownT, lend, unown, AV.hf, runG_un, and_false, false_and]
theorem cn93 (p : Int × Int) (id : Nat) (H : Heap) : pcx (cbL tab) 93 [.agg (pairA p), .ptr id 0] H = none := pcx_none rfl (pc_none (fi := c93) rfl rfl)
theorem l93 : (cbL tab).lent 93 = false := rfl
theorem not_ic (p : Int × Int) (id : Nat) (n : Nd) (H : Heap) (h : H[id]? = some (.cells (Nd.cs n))) :
    (cbL tab).ic 93 [.agg (pairA p), .ptr id 0] H = some (.ret (.bool (!decide (mayN n.v n.l p))), H ++ [.cells (pairA p)]) := by
  refine ic_val (ic_wp (fi := c93) rfl rfl (by simp [c93]) (by decide) ?_)
  unfold c93
  have e1 : ∀ o : AObj, (H ++ [o])[H.length]? = some o := fun o => by simp
  have e0 : ∀ o : AObj, (H ++ [o])[id]? = H[id]? := fun o => List.getElem?_append_left (by have := (List.getElem?_eq_some_iff.1 h).1; exact this)
  have m := may_px n p
  simp only [Nd.cs, Nd.cells] at m h
  simp only [pairA] at m ⊢
  simp (disch := omega) only [wk, avalE, aactE, evPE, boundE, asNat, bv_seql cellsEq_ii, bv_sneqd cellsEq_ii, readC, allOne, fillL, resE, tupled, ↓reduceIte, Nat.reduceEqDiff, Int.reduceEq, Int.reduceLT, Int.reduceLE, Nat.reduceAdd, Nat.reduceMul, Nat.reduceLT, Nat.reduceLeDiff, reduceCtorEq, e1, e0, h, m]
theorem index2_ic (n : Nd) (l : List (Int × Int)) (s : Nat) (tk : Tk) (id : Nat) (H : Heap) (hn : l.length ≤ 1000) (hz : l ≠ [] → s = 2) (h : H[id]? = some (.cells (Nd.cs n))) :
    ∃ o H', (cbL tab).ic 152 [.sl s l.length (encs pairA l) tk, .fn 93 [.ptr id 0]] H = some (o, H') ∧
      ((∃ v, o = .ret (.int .i64 v) ∧ (0 ≤ v ↔ ¬ mayAll n.v n.l l)) ∧ (∀ (i : Nat) (q : AObj), H[i]? = some q → H'[i]? = some q) ∧ H.length ≤ H'.length) := by
  refine ic_wp (fi := c152) rfl (by simp [pcOn, c152, hfL, lend, unown, AV.hf]) (by simp [c152]) (by decide) ?_
  unfold c152
  simp (disch := omega) only [wk, avalE, aactE, evPE, boundE, asNat, bv_seql cellsEq_ii, bv_sneqd cellsEq_ii, readC, allOne, fillL, resE, tupled, ↓reduceIte, Nat.reduceEqDiff, Int.reduceEq, Int.reduceLT, Int.reduceLE, Nat.reduceAdd, Nat.reduceMul, Nat.reduceLT, Nat.reduceLeDiff, reduceCtorEq]
  refine loop_ind (fun (x : List (Int × Int) × List (Int × Int)) E df H1 => l = x.1 ++ x.2 ∧ (mayAll n.v n.l l ↔ mayAll n.v n.l x.2) ∧ E 0 = .sl s l.length (encs pairA l) tk ∧ E 1 = .fn 93 [.ptr id 0] ∧ E 7 = .int .i64 (l.length : Nat) ∧ E 8 = .int .i64 (x.1.length : Nat) ∧ df = [] ∧
      (∀ (i : Nat) (q : AObj), H[i]? = some q → H1[i]? = some q) ∧ H.length ≤ H1.length) (fun x => x.2.length) ([], l) (by decide) (.inl rfl) ⟨rfl, Iff.rfl, rfl, rfl, rfl, rfl, rfl, fun _ _ h => h, Nat.le_refl _⟩ ?_
  intro ⟨pre, suf⟩ E df H1 ih hP
  obtain ⟨a1, a2, E0, E1, E7, E8, hdf, hup, hle⟩ := hP
  dsimp only at a1 a2 E8
  subst hdf a1
  simp only [List.length_append] at hn E7
  cases suf with
  | nil =>
    simp only [List.length_nil, Nat.add_zero] at E7
    simp (disch := omega) only [wk, avalE, aactE, evPE, boundE, asNat, bv_seql cellsEq_ii, bv_sneqd cellsEq_ii, readC, allOne, fillL, resE, tupled, ↓reduceIte, Nat.reduceEqDiff, Int.reduceEq, Int.reduceLT, Int.reduceLE, Nat.reduceAdd, Nat.reduceMul, Nat.reduceLT, Nat.reduceLeDiff, reduceCtorEq, E0, E1, E7, E8]
    refine ⟨⟨_, rfl, ?_⟩, hup, hle⟩
    rw [a2]
    simp [mayAll]
  | cons x r =>
    simp only [List.length_cons] at hn E7
    obtain rfl := hz (by simp)
    obtain ⟨k, q⟩ := x
    have c1 := cn93 (k, q) id H1
    have c2 := not_ic (k, q) id n H1 (hup _ _ h)
    simp only [pairA] at c1 c2
    have a3 : mayAll n.v n.l ((k, q) :: r) ↔ mayN n.v n.l (k, q) ∧ mayAll n.v n.l r := by simp [mayAll]
    have up2 : ∀ (i : Nat) (o : AObj), H[i]? = some o → (H1 ++ [AObj.cells [.int .u64 k, .int .u64 q]])[i]? = some o := fun i o ho => by
      have := hup i o ho
      rw [List.getElem?_append_left (List.getElem?_eq_some_iff.1 this).1]; exact this
    by_cases hx : mayN n.v n.l (k, q)
    · simp only [hx, decide_true, Bool.not_true] at c2
      simp (disch := omega) only [wk, avalE, aactE, evPE, boundE, asNat, bv_seql cellsEq_ii, bv_sneqd cellsEq_ii, readC, allOne, fillL, resE, tupled, ↓reduceIte, Nat.reduceEqDiff, Int.reduceEq, Int.reduceLT, Int.reduceLE, Nat.reduceAdd, Nat.reduceMul, Nat.reduceLT, Nat.reduceLeDiff, reduceCtorEq, E0, E1, E7, E8, pairA, c1, c2, runE_none l93]
      refine ih (pre ++ [(k, q)], r) _ _ _ (by simp) ?_
      exact ⟨by simp, by rw [a2, a3]; simp [hx], by simp only [en, ↓reduceIte, Nat.reduceEqDiff, E0], by simp only [en, ↓reduceIte, Nat.reduceEqDiff, E1], by simp only [en, ↓reduceIte, Nat.reduceEqDiff, E7], by simp only [en, ↓reduceIte, Nat.reduceEqDiff], rfl, up2, by simp; omega⟩
    · simp only [hx, decide_false, Bool.not_false] at c2
      simp (disch := omega) only [wk, avalE, aactE, evPE, boundE, asNat, bv_seql cellsEq_ii, bv_sneqd cellsEq_ii, readC, allOne, fillL, resE, tupled, ↓reduceIte, Nat.reduceEqDiff, Int.reduceEq, Int.reduceLT, Int.reduceLE, Nat.reduceAdd, Nat.reduceMul, Nat.reduceLT, Nat.reduceLeDiff, reduceCtorEq, E0, E1, E7, E8, pairA, c1, c2, runE_none l93]
      refine ⟨⟨_, rfl, ?_⟩, up2, by first | omega | (simp; omega)⟩
      rw [a2, a3]
      simp [hx]
      try omega
theorem l91n : (cbL tab).lent 152 = false := rfl
theorem l82n : (cbL tab).lent 92 = false := rfl
theorem cn82n (s n id : Nat) (cs : List AV) (tk : Tk) (H : Heap) : pcx (cbL tab) 92 [.sl s n cs tk, .fn 93 [.ptr id 0]] H = none :=
  pcx_none rfl (pc_none (fi := c92) rfl (by simp [pcOn, c92, hfL, lend, unown, AV.hf]))
theorem contains2_ic (n : Nd) (l : List (Int × Int)) (s : Nat) (tk : Tk) (id : Nat) (H : Heap) (hn : l.length ≤ 1000) (hz : l ≠ [] → s = 2) (h : H[id]? = some (.cells (Nd.cs n))) :
    ∃ H', (cbL tab).ic 92 [.sl s l.length (encs pairA l) tk, .fn 93 [.ptr id 0]] H = some (.ret (.bool (decide (¬ mayAll n.v n.l l))), H') ∧
      (∀ (i : Nat) (q : AObj), H[i]? = some q → H'[i]? = some q) ∧ H.length ≤ H'.length := by
  obtain ⟨o, H', k1, ⟨v, rfl, hv⟩, k2, k3⟩ := index2_ic n l s tk id H hn hz h
  refine ⟨H', ic_val (ic_wp (fi := c92) rfl (by simp [pcOn, c92, hfL, lend, unown, AV.hf]) (by simp [c92]) (by decide) ?_), k2, k3⟩
  unfold c92
  have c1 : ∀ H, pcx (cbL tab) 152 [.sl s l.length (encs pairA l) tk, .fn 93 [.ptr id 0]] H = none := fun H => pcx_none rfl (pc_none (fi := c152) rfl (by simp [pcOn, c152, hfL, lend, unown, AV.hf]))
  simp (disch := omega) only [wk, avalE, aactE, evPE, boundE, asNat, bv_seql cellsEq_ii, bv_sneqd cellsEq_ii, readC, allOne, fillL, resE, tupled, ↓reduceIte, Nat.reduceEqDiff, Int.reduceEq, Int.reduceLT, Int.reduceLE, Nat.reduceAdd, Nat.reduceMul, Nat.reduceLT, Nat.reduceLeDiff, reduceCtorEq, c1, k1, runE_none l91n, hv]
theorem unown_i (k : IntKind) (n : Int) : unown (.int k n) = .int k n := rfl
theorem settled_len (n : Nat) (cs : List AV) (tk : Tk) (H : Heap) (hn : (n : Int) ≤ 9223372036854775807) (hc : hfL cs = true) (h : n ≠ 64) : pcx (cbL tab) 58 [.sl 1 n cs tk] H = some (.plain (.tup [nd0.av, .int .i64 210])) := by
  obtain ⟨u1, e1, f1⟩ := lend_sl 1 n cs tk
  refine pcx_N rfl (pc_wp (fi := c58) rfl ?_ (by simp [c58]) (by decide) ?_)
  · simp only [pcOn, List.map_cons, List.map_nil, hfL, hf_lend_sl, hf_lend_int, hf_lend_bool, hf_lend_str, hfL_append, Bool.and_self, Bool.and_true, Bool.true_and, c58, hc]
  unfold c58
  rw [List.map_cons, List.map_nil, e1]
  have o := fun H => of_len n cs u1 H hn hc h
  rw [nd0_av] at o ⊢
  simp (disch := omega) only [wk, avalE, aactE, evPE, boundE, asNat, bv_seql cellsEq_ii, bv_sneqd cellsEq_ii, readC, allOne, fillL, resE, tupled, ↓reduceIte, Nat.reduceEqDiff, Int.reduceEq, Int.reduceLT, Int.reduceLE, Nat.reduceAdd, Nat.reduceMul, Nat.reduceLT, Nat.reduceLeDiff, reduceCtorEq, o, purify, unownT, lend, unown, AV.hf, hfL, Tk.hf]
theorem settled_words (h : Hd) (hu : h.u) (ps : List (Int × Int)) (hp : ps.length = 28) (rest : List AV) (tk : Tk) (H : Heap) (hc : hfL rest = true) :
    pcx (cbL tab) 58 [.sl 1 64 (wordsA h ps rest) tk] H = some (.plain (.tup [if h.ok ∧ chkE h ps = 0 then (ndOf h ps).av else nd0.av, .int .i64 (if h.ok then chkE h ps else 210)])) := by
  have hcs := hf_words h ps rest hc
  obtain ⟨u1, e1, f1⟩ := lend_sl 1 64 (wordsA h ps rest) tk
  refine pcx_N rfl (pc_wp (fi := c58) rfl ?_ (by simp [c58]) (by decide) ?_)
  · simp only [pcOn, List.map_cons, List.map_nil, hfL, hf_lend_sl, hf_lend_int, hf_lend_bool, hf_lend_str, hfL_append, Bool.and_self, Bool.and_true, Bool.true_and, c58, hcs]
  unfold c58
  rw [List.map_cons, List.map_nil, e1]
  have o := fun H => of_words h hu ps hp rest u1 H hc
  by_cases hok : h.ok
  case neg =>
    simp only [hok, if_false, nd0_av] at o
    simp only [hok, if_false, false_and, nd0_av]
    simp (disch := omega) only [wk, avalE, aactE, evPE, boundE, asNat, bv_seql cellsEq_ii, bv_sneqd cellsEq_ii, readC, allOne, fillL, resE, tupled, ↓reduceIte, Nat.reduceEqDiff, Int.reduceEq, Int.reduceLT, Int.reduceLE, Nat.reduceAdd, Nat.reduceMul, Nat.reduceLT, Nat.reduceLeDiff, reduceCtorEq, o, purify, unownT, lend, unown, AV.hf, hfL, Tk.hf]
  simp only [hok, if_true, true_and] at o ⊢
  have hlen := rdL_le h.f ps
  have sc : ∀ H, pcx (cbL tab) 91 [.int .u64 h.f, .sl 1 56 (encs pairA ps ++ rest) .ro] H = some (.plain (.int .i64 (if okL h.f ps then 0 else 190))) := fun H => by
    have := slotscheck_yes h.f ps rest .ro H hc (Hd.row hok hp)
    rwa [row, hp] at this
  have ew : wordsA h ps rest = .int .u64 h.m :: .int .u64 h.s :: .int .u64 h.l :: .int .u64 h.f :: .int .u64 h.y :: .int .u64 h.a :: .int .u64 h.b :: .int .u64 h.c :: (encs pairA ps ++ rest) := rfl
  have lw : 56 ≤ (encs pairA ps).length + rest.length := by rw [encs_length (f := pairA) (k := 2), hp]; omega
  have en : (ndOf h ps).av = .agg [.int .i64 (h.m - nmark), .int .i64 h.s, .int .u64 h.l, .int .u64 h.f, .int .i64 h.y, slvR 2 pairA (rdL h.f ps)] := rfl
  have sf := slvR_hf (sz := 2) (f := pairA) (fun _ => rfl) (rdL h.f ps)
  have so := slvR_one (sz := 2) (f := pairA) (rdL h.f ps)
  have su := slvR_unown (sz := 2) (f := pairA) (rdL h.f ps)
  have sv : ∃ (z : Nat) (k : Tk), slvR 2 pairA (rdL h.f ps) = .sl z (rdL h.f ps).length (encs pairA (rdL h.f ps)) k ∧ (rdL h.f ps ≠ [] → z = 2) := by
    unfold slvR
    split
    · rename_i he
      exact ⟨0, .z, rfl, fun hne => absurd (List.isEmpty_iff.1 he) hne⟩
    · exact ⟨2, .ro, rfl, fun _ => rfl⟩
  rw [en] at o ⊢
  have ec : ∀ (q : AV), q = slvR 2 pairA (rdL h.f ps) → [.int .i64 (h.m - nmark), .int .i64 h.s, .int .u64 h.l, .int .u64 h.f, .int .i64 h.y, q] = Nd.cs (ndOf h ps) := fun q e => by rw [e]; rfl
  by_cases h1 : okL h.f ps
  case neg =>
    have e0 : chkE h ps = 190 := if_neg (fun k => h1 k.1)
    simp only [h1, if_false] at sc
    simp only [e0, Int.reduceEq, if_false, nd0_av]
    rw [ew]
    rw [ew] at o
    simp (disch := omega) only [wk, avalE, aactE, evPE, boundE, asNat, bv_seql cellsEq_ii, bv_sneqd cellsEq_ii, readC, allOne, fillL, resE, tupled, ↓reduceIte, Nat.reduceEqDiff, Int.reduceEq, Int.reduceLT, Int.reduceLE, Nat.reduceAdd, Nat.reduceMul, Nat.reduceLT, Nat.reduceLeDiff, reduceCtorEq, Int.reduceToNat, Int.reduceAdd, Int.reduceSub, Int.reduceMul, Int.reduceNeg, Nat.reduceSub, Nat.reduceDiv, o, sc, so, runG_un, purify, unownT, lend, unown, AV.hf, hfL, Tk.hf]
  simp only [h1, if_true] at sc
  obtain ⟨z, k, ev, hz⟩ := sv
  have key : ∀ Hq : Heap, Hq[1]? = some (.cells (Nd.cs (ndOf h ps))) → ∃ H', (cbL tab).ic 92 [.sl z (rdL h.f ps).length (encs pairA (rdL h.f ps)) k, .fn 93 [.ptr 1 0]] Hq = some (.ret (.bool (decide (¬ mayAll (h.m - nmark) h.l (rdL h.f ps)))), H') ∧
      (∀ (i : Nat) (q : AObj), Hq[i]? = some q → H'[i]? = some q) ∧ Hq.length ≤ H'.length := fun Hq hq => contains2_ic (ndOf h ps) (rdL h.f ps) z k 1 Hq (by omega) hz hq
  rw [ew]
  rw [ew] at o
  have cn := fun H => cn82n z (rdL h.f ps).length 1 (encs pairA (rdL h.f ps)) k H
  have hz0 := ec _ rfl
  rw [ev] at o so sf su ⊢ hz0
  obtain ⟨H', k1, k2, k3⟩ := key [.cells [.int .i64 0, .int .i64 0, .int .u64 0, .int .u64 0, .int .i64 0, .sl 0 0 [] .z], .cells [.int .i64 (h.m - nmark), .int .i64 h.s, .int .u64 h.l, .int .u64 h.f, .int .i64 h.y, .sl z (rdL h.f ps).length (encs pairA (rdL h.f ps)) k]] (by rw [← hz0]; rfl)
  have g0 := k2 0 _ rfl
  have g1 := k2 1 _ rfl
  have s0 : ∀ (o : AObj), (H'.set 0 o)[0]? = some o := fun o => set_eq g0
  by_cases h2 : mayAll (h.m - nmark) h.l (rdL h.f ps)
  · have e0 : chkE h ps = 0 := if_pos ⟨h1, h2⟩
    simp only [h2, not_true_eq_false, decide_false] at k1
    simp only [e0, if_true]
    simp (disch := omega) only [wk, avalE, aactE, evPE, boundE, asNat, bv_seql cellsEq_ii, bv_sneqd cellsEq_ii, readC, allOne, fillL, resE, tupled, ↓reduceIte, Nat.reduceEqDiff, Int.reduceEq, Int.reduceLT, Int.reduceLE, Nat.reduceAdd, Nat.reduceMul, Nat.reduceLT, Nat.reduceLeDiff, reduceCtorEq, Int.reduceToNat, Int.reduceAdd, Int.reduceSub, Int.reduceMul, Int.reduceNeg, Nat.reduceSub, Nat.reduceDiv, o, sc, so, runG_un, cn, runE_none l82n, k1, g0, g1, s0]
    have kf : k.hf = true := by
      have := sf
      simp only [AV.hf, Bool.and_eq_true] at this
      exact this.2
    simp only [purify, unownT, List.map_cons, List.map_nil, lend, unown_i, su, AV.hf, hfL, hf_pairA, kf, Bool.and_self, if_true]
  · have e0 : chkE h ps = 190 := if_neg (fun q => h2 q.2)
    simp only [h2, not_false_eq_true, decide_true] at k1
    simp only [e0, Int.reduceEq, if_false, nd0_av]
    simp (disch := omega) only [wk, avalE, aactE, evPE, boundE, asNat, bv_seql cellsEq_ii, bv_sneqd cellsEq_ii, readC, allOne, fillL, resE, tupled, ↓reduceIte, Nat.reduceEqDiff, Int.reduceEq, Int.reduceLT, Int.reduceLE, Nat.reduceAdd, Nat.reduceMul, Nat.reduceLT, Nat.reduceLeDiff, reduceCtorEq, Int.reduceToNat, Int.reduceAdd, Int.reduceSub, Int.reduceMul, Int.reduceNeg, Nat.reduceSub, Nat.reduceDiv, o, sc, so, runG_un, cn, runE_none l82n, k1, g0, g1, s0, purify, unownT, lend, unown, AV.hf, hfL, Tk.hf]
theorem nodecheck_len (n : Nat) (cs : List AV) (tk : Tk) (H : Heap) (hn : (n : Int) ≤ 9223372036854775807) (hc : hfL cs = true) (h : n ≠ 64) : pcx (cbL tab) 27 [.sl 1 n cs tk] H = some (.plain (.int .i64 210)) := by
  obtain ⟨u1, e1, f1⟩ := lend_sl 1 n cs tk
  refine pcx_N rfl (pc_wp (fi := c27) rfl ?_ (by simp [c27]) (by decide) ?_)
  · simp only [pcOn, List.map_cons, List.map_nil, hfL, hf_lend_sl, hf_lend_int, hf_lend_bool, hf_lend_str, hfL_append, Bool.and_self, Bool.and_true, Bool.true_and, c27, hc]
  unfold c27
  rw [List.map_cons, List.map_nil, e1]
  have o := fun H => settled_len n cs u1 H hn hc h
  rw [nd0_av] at o
  simp (disch := omega) only [wk, avalE, aactE, evPE, boundE, asNat, bv_seql cellsEq_ii, bv_sneqd cellsEq_ii, readC, allOne, fillL, resE, tupled, ↓reduceIte, Nat.reduceEqDiff, Int.reduceEq, Int.reduceLT, Int.reduceLE, Nat.reduceAdd, Nat.reduceMul, Nat.reduceLT, Nat.reduceLeDiff, reduceCtorEq, o, purify, unownT, lend, unown, AV.hf, hfL, Tk.hf]
theorem nodecheck_words (h : Hd) (hu : h.u) (ps : List (Int × Int)) (hp : ps.length = 28) (rest : List AV) (tk : Tk) (H : Heap) (hc : hfL rest = true) :
    pcx (cbL tab) 27 [.sl 1 64 (wordsA h ps rest) tk] H = some (.plain (.int .i64 (if h.ok then chkE h ps else 210))) := by
  have hcs := hf_words h ps rest hc
  obtain ⟨u1, e1, f1⟩ := lend_sl 1 64 (wordsA h ps rest) tk
  refine pcx_N rfl (pc_wp (fi := c27) rfl ?_ (by simp [c27]) (by decide) ?_)
  · simp only [pcOn, List.map_cons, List.map_nil, hfL, hf_lend_sl, hf_lend_int, hf_lend_bool, hf_lend_str, hfL_append, Bool.and_self, Bool.and_true, Bool.true_and, c27, hcs]
  unfold c27
  rw [List.map_cons, List.map_nil, e1]
  have o := fun H => settled_words h hu ps hp rest u1 H hc
  have : ∃ n : Nd, (if h.ok ∧ chkE h ps = 0 then (ndOf h ps).av else nd0.av) = .agg (Nd.cs n) := by
    split
    · exact ⟨_, rfl⟩
    · exact ⟨_, rfl⟩
  obtain ⟨n, en⟩ := this
  rw [en] at o
  have on := one_Nc n
  simp only [Nd.cs, Nd.cells] at o on
  have o1 : AV.one (slvR 2 pairA n.ps) = true := slvR_one _
  simp (disch := omega) only [wk, avalE, aactE, evPE, boundE, asNat, bv_seql cellsEq_ii, bv_sneqd cellsEq_ii, readC, allOne, fillL, resE, tupled, ↓reduceIte, Nat.reduceEqDiff, Int.reduceEq, Int.reduceLT, Int.reduceLE, Nat.reduceAdd, Nat.reduceMul, Nat.reduceLT, Nat.reduceLeDiff, reduceCtorEq, o, o1, purify, unownT, lend, unown, AV.hf]
end Go.Proofs.Ytailfegmnkldoaa
