/- THE WALKS OF Same. No condition but those stated. -/
import Derived.Test.YtncmflmjlocgiaaI1
set_option linter.unusedSimpArgs false
set_option linter.unusedVariables false
set_option linter.unusedSectionVars false
namespace Go.Proofs.Ytncmflmjlocgiaa
open Go Go.Am Go.Rec Go.Ino
set_option maxHeartbeats 2000000
set_option maxRecDepth 10000
theorem bv_streq {xo yo : X} {ek : EqK} {a b : ByteArray} : binV .eql ek xo yo (.str a) (.str b) = some (.bool (a.toList == b.toList)) := rfl
theorem ba_eq (s t : ByteArray) : (s.toList == t.toList) = decide (s = t) := by
  by_cases h : s = t
  · subst h
    rw [decide_eq_true rfl, beq_self_eq_true]
  · rw [decide_eq_false h]
    have : ¬ (s.toList == t.toList) = true := fun e => h (by
      rw [ByteArray.toList_eq, ByteArray.toList_eq] at e
      have := eq_of_beq e
      obtain ⟨⟨a⟩⟩ := s
      obtain ⟨⟨b⟩⟩ := t
      exact congrArg (fun l => ByteArray.mk (Array.mk l)) this)
    simpa using this
theorem ceq_e {x y : Ext} : cellsEq [0, 0, 0] [.int .i64 x.1, .int .i64 x.2.1, .int .i64 x.2.2] [.int .i64 y.1, .int .i64 y.2.1, .int .i64 y.2.2] = some (decide (x = y)) := by
  obtain ⟨a, b, c⟩ := x
  obtain ⟨d, e, f⟩ := y
  by_cases h1 : a = d
  · by_cases h2 : b = e
    · by_cases h3 : c = f
      · subst h1 h2 h3; simp [cellsEq, cellEq]
      · have : (c == f) = false := by simp [h3]
        subst h1 h2; simp [cellsEq, cellEq, this, h3]
    · have : (b == e) = false := by simp [h2]
      subst h1; simp [cellsEq, cellEq, this, h2]
  · have : (a == d) = false := by simp [h1]
    simp [cellsEq, cellEq, this, h1]
theorem edrop (pre : List Ext) (x : Ext) (r : List Ext) (rest : List AV) : List.drop (pre.length * 3) (encs extA (pre ++ x :: r) ++ rest) = .int .i64 x.1 :: .int .i64 x.2.1 :: .int .i64 x.2.2 :: (encs extA r ++ rest) := by
  rw [drop_pre2, encs_cons]; rfl
theorem lenE (l : List Ext) : (encs extA l).length = l.length * 3 := encs_length (k := 3) l
theorem samel_px (a b : List Ext) (r1 r2 : List AV) (s1 s2 : Nat) (k1 k2 : Tk) (H : Heap) (ha : a.length ≤ 1000) (hb : b.length ≤ 1000) (z1 : a ≠ [] → s1 = 3) (z2 : b ≠ [] → s2 = 3) (h1 : hfL r1 = true) (h2 : hfL r2 = true) :
    pcx (cbL tab) 70 [.sl s1 a.length (encs extA a ++ r1) k1, .sl s2 b.length (encs extA b ++ r2) k2] H = some (.plain (.bool (decide (a = b)))) := by
  obtain ⟨u1, e1, f1⟩ := lend_sl s1 a.length (encs extA a ++ r1) k1
  obtain ⟨u2, e2, f2⟩ := lend_sl s2 b.length (encs extA b ++ r2) k2
  refine pcx_N rfl (pc_wp (fi := c70) rfl ?_ (by simp [c70]) (by decide) ?_)
  · simp only [pcOn, List.map_cons, List.map_nil, hfL, hf_lend_sl, hf_lend_int, hf_lend_bool, hf_lend_str, hfL_append, Bool.and_self, Bool.and_true, Bool.true_and, c70, hf_extA, h1, h2]
  unfold c70
  rw [List.map_cons, List.map_cons, List.map_nil, e1, e2]
  by_cases hl : (a.length : Int) = (b.length : Int)
  case neg =>
    have : ¬ a = b := fun h => hl (by rw [h])
    simp (disch := omega) only [wk, avalE, aactE, evPE, boundE, asNat, bv_seql cellsEq_ii, bv_sneqd cellsEq_ii, readC, allOne, fillL, resE, tupled, ↓reduceIte, Nat.reduceEqDiff, Int.reduceEq, Int.reduceLT, Int.reduceLE, Nat.reduceAdd, Nat.reduceMul, Nat.reduceLT, Nat.reduceLeDiff, reduceCtorEq, hl, this, purify, unownT, AV.hf]
  have hl' : a.length = b.length := by omega
  simp (disch := omega) only [wk, avalE, aactE, evPE, boundE, asNat, bv_seql cellsEq_ii, bv_sneqd cellsEq_ii, readC, allOne, fillL, resE, tupled, ↓reduceIte, Nat.reduceEqDiff, Int.reduceEq, Int.reduceLT, Int.reduceLE, Nat.reduceAdd, Nat.reduceMul, Nat.reduceLT, Nat.reduceLeDiff, reduceCtorEq, hl]
  refine loop_ind (fun (x : List Ext × List Ext × List Ext) E df H => a = x.1 ++ x.2.1 ∧ b = x.1 ++ x.2.2 ∧ E 0 = .sl s1 a.length (encs extA a ++ r1) u1 ∧ E 1 = .sl s2 b.length (encs extA b ++ r2) u2 ∧  E 5 = .int .i64 (x.1.length : Nat) ∧ df = [] ∧ H = [])
    (fun x => x.2.1.length) ([], a, b) (by decide) (.inl rfl) ⟨rfl, rfl, rfl, rfl,  rfl, rfl, rfl⟩ ?_
  intro ⟨pre, sa, sb⟩ E df H ih hP
  obtain ⟨a1, a2, E0, E1, E5, hdf, hH⟩ := hP
  dsimp only at a1 a2 E5
  subst hdf hH
  have la : a.length = pre.length + sa.length := by rw [a1, List.length_append]
  have lb : b.length = pre.length + sb.length := by rw [a2, List.length_append]
  cases sa with
  | nil =>
    cases sb with
    | nil =>
      have : a = b := by rw [a1, a2]
      simp only [List.length_nil, Nat.add_zero] at la lb
      simp (disch := omega) only [wk, avalE, aactE, evPE, boundE, asNat, bv_seql cellsEq_ii, bv_sneqd cellsEq_ii, readC, allOne, fillL, resE, tupled, ↓reduceIte, Nat.reduceEqDiff, Int.reduceEq, Int.reduceLT, Int.reduceLE, Nat.reduceAdd, Nat.reduceMul, Nat.reduceLT, Nat.reduceLeDiff, reduceCtorEq, E0, E1, E5, la, lb, this, purify, unownT, AV.hf]
    | cons y r => simp at la lb; omega
  | cons x r =>
    cases sb with
    | nil => simp at la lb; omega
    | cons y q =>
      simp only [List.length_cons] at la lb
      obtain rfl := z1 (by rw [a1]; simp)
      obtain rfl := z2 (by rw [a2]; simp)
      have d1 := edrop pre x r r1
      have d2 := edrop pre y q r2
      rw [← a1] at d1
      rw [← a2] at d2
      have n1 : (pre.length : Int) < (a.length : Int) := by omega
      have n2 : (pre.length : Int) < (b.length : Int) := by omega
      by_cases hxy : x = y
      · subst hxy
        simp (disch := omega) only [wk, avalE, aactE, evPE, boundE, asNat, bv_seql cellsEq_ii, bv_sneqd cellsEq_ii, readC, allOne, fillL, resE, tupled, ↓reduceIte, Nat.reduceEqDiff, Int.reduceEq, Int.reduceLT, Int.reduceLE, Nat.reduceAdd, Nat.reduceMul, Nat.reduceLT, Nat.reduceLeDiff, reduceCtorEq, E0, E1, E5, n1, n2, d1, d2, bv_sneqd ceq_e]
        refine ih (pre ++ [x], r, q) _ _ _ (by simp) ?_
        exact ⟨by simp [a1], by simp [a2], by simp only [en, ↓reduceIte, Nat.reduceEqDiff, E0], by simp only [en, ↓reduceIte, Nat.reduceEqDiff, E1], by simp only [en, ↓reduceIte, Nat.reduceEqDiff], rfl, rfl⟩
      · have : ¬ a = b := by rw [a1, a2]; simp [hxy]
        simp (disch := omega) only [wk, avalE, aactE, evPE, boundE, asNat, bv_seql cellsEq_ii, bv_sneqd cellsEq_ii, readC, allOne, fillL, resE, tupled, ↓reduceIte, Nat.reduceEqDiff, Int.reduceEq, Int.reduceLT, Int.reduceLE, Nat.reduceAdd, Nat.reduceMul, Nat.reduceLT, Nat.reduceLeDiff, reduceCtorEq, E0, E1, E5, n1, n2, d1, d2, bv_sneqd ceq_e, hxy, this, purify, unownT, AV.hf]
theorem equall_pc (a b : List Ext) (r1 r2 : List AV) (s1 s2 : Nat) (k1 k2 : Tk) (ha : a.length ≤ 1000) (hb : b.length ≤ 1000) (z1 : a ≠ [] → s1 = 3) (z2 : b ≠ [] → s2 = 3) (h1 : hfL r1 = true) (h2 : hfL r2 = true) (t1 : k1.hf = true) (t2 : k2.hf = true) :
    (cbL tab).pc 75 [.sl s1 a.length (encs extA a ++ r1) k1, .sl s2 b.length (encs extA b ++ r2) k2] = some (.plain (.bool (decide (a = b)))) := by
  obtain ⟨u1, e1, f1⟩ := lend_sl s1 a.length (encs extA a ++ r1) k1
  obtain ⟨u2, e2, f2⟩ := lend_sl s2 b.length (encs extA b ++ r2) k2
  refine pc_wp (fi := c75) rfl ?_ (by simp [c75]) (by decide) ?_
  · simp only [pcOn, List.map_cons, List.map_nil, hfL, hf_lend_sl, hf_lend_int, hf_lend_bool, hf_lend_str, hfL_append, Bool.and_self, Bool.and_true, Bool.true_and, c75, hf_extA, h1, h2, AV.hf, t1, t2]
  unfold c75
  rw [List.map_cons, List.map_cons, List.map_nil, e1, e2]
  by_cases hl : (a.length : Int) = (b.length : Int)
  case neg =>
    have : ¬ a = b := fun h => hl (by rw [h])
    simp (disch := omega) only [wk, avalE, aactE, evPE, boundE, asNat, bv_seql cellsEq_ii, bv_sneqd cellsEq_ii, readC, allOne, fillL, resE, tupled, ↓reduceIte, Nat.reduceEqDiff, Int.reduceEq, Int.reduceLT, Int.reduceLE, Nat.reduceAdd, Nat.reduceMul, Nat.reduceLT, Nat.reduceLeDiff, reduceCtorEq, hl, this, purify, unownT, AV.hf]
  have hl' : a.length = b.length := by omega
  simp (disch := omega) only [wk, avalE, aactE, evPE, boundE, asNat, bv_seql cellsEq_ii, bv_sneqd cellsEq_ii, readC, allOne, fillL, resE, tupled, ↓reduceIte, Nat.reduceEqDiff, Int.reduceEq, Int.reduceLT, Int.reduceLE, Nat.reduceAdd, Nat.reduceMul, Nat.reduceLT, Nat.reduceLeDiff, reduceCtorEq, hl]
  refine loop_ind (fun (x : List Ext × List Ext × List Ext) E df H => a = x.1 ++ x.2.1 ∧ b = x.1 ++ x.2.2 ∧ E 0 = .sl s1 a.length (encs extA a ++ r1) u1 ∧ E 1 = .sl s2 b.length (encs extA b ++ r2) u2 ∧ E 12 = .int .i64 (b.length : Nat) ∧ E 13 = .int .i64 (x.1.length : Nat) ∧ df = [] ∧ H = [])
    (fun x => x.2.1.length) ([], a, b) (by decide) (.inl rfl) ⟨rfl, rfl, rfl, rfl, rfl, rfl, rfl, rfl⟩ ?_
  intro ⟨pre, sa, sb⟩ E df H ih hP
  obtain ⟨a1, a2, E0, E1, E12, E5, hdf, hH⟩ := hP
  dsimp only at a1 a2 E5
  subst hdf hH
  have la : a.length = pre.length + sa.length := by rw [a1, List.length_append]
  have lb : b.length = pre.length + sb.length := by rw [a2, List.length_append]
  cases sa with
  | nil =>
    cases sb with
    | nil =>
      have : a = b := by rw [a1, a2]
      simp only [List.length_nil, Nat.add_zero] at la lb
      simp (disch := omega) only [wk, avalE, aactE, evPE, boundE, asNat, bv_seql cellsEq_ii, bv_sneqd cellsEq_ii, readC, allOne, fillL, resE, tupled, ↓reduceIte, Nat.reduceEqDiff, Int.reduceEq, Int.reduceLT, Int.reduceLE, Nat.reduceAdd, Nat.reduceMul, Nat.reduceLT, Nat.reduceLeDiff, reduceCtorEq, E0, E1, E12, E5, la, lb, this, purify, unownT, AV.hf]
    | cons y r => simp at la lb; omega
  | cons x r =>
    cases sb with
    | nil => simp at la lb; omega
    | cons y q =>
      simp only [List.length_cons] at la lb
      obtain rfl := z1 (by rw [a1]; simp)
      obtain rfl := z2 (by rw [a2]; simp)
      have d1 := edrop pre x r r1
      have d2 := edrop pre y q r2
      rw [← a1] at d1
      rw [← a2] at d2
      have n1 : (pre.length : Int) < (a.length : Int) := by omega
      have n2 : (pre.length : Int) < (b.length : Int) := by omega
      by_cases hxy : x = y
      · subst hxy
        simp (disch := omega) only [wk, avalE, aactE, evPE, boundE, asNat, bv_seql cellsEq_ii, bv_sneqd cellsEq_ii, readC, allOne, fillL, resE, tupled, ↓reduceIte, Nat.reduceEqDiff, Int.reduceEq, Int.reduceLT, Int.reduceLE, Nat.reduceAdd, Nat.reduceMul, Nat.reduceLT, Nat.reduceLeDiff, reduceCtorEq, E0, E1, E12, E5, n1, n2, d1, d2, bv_sneqd ceq_e]
        refine ih (pre ++ [x], r, q) _ _ _ (by simp) ?_
        exact ⟨by simp [a1], by simp [a2], by simp only [en, ↓reduceIte, Nat.reduceEqDiff, E0], by simp only [en, ↓reduceIte, Nat.reduceEqDiff, E1], by simp only [en, ↓reduceIte, Nat.reduceEqDiff, E12], by simp only [en, ↓reduceIte, Nat.reduceEqDiff], rfl, rfl⟩
      · have : ¬ a = b := by rw [a1, a2]; simp [hxy]
        simp (disch := omega) only [wk, avalE, aactE, evPE, boundE, asNat, bv_seql cellsEq_ii, bv_sneqd cellsEq_ii, readC, allOne, fillL, resE, tupled, ↓reduceIte, Nat.reduceEqDiff, Int.reduceEq, Int.reduceLT, Int.reduceLE, Nat.reduceAdd, Nat.reduceMul, Nat.reduceLT, Nat.reduceLeDiff, reduceCtorEq, E0, E1, E12, E5, n1, n2, d1, d2, bv_sneqd ceq_e, hxy, this, purify, unownT, AV.hf]
/-- A map as a value. -/
def MapR (m : AV) (l : List Ext) : Prop := ∃ s rest tk, m = .sl s l.length (encs extA l ++ rest) tk ∧ (l ≠ [] → s = 3) ∧ hfL rest = true ∧ tk.hf = true
def inoA (n : Ino) (m : AV) : AV := .agg [.int .i64 n.kind, .int .i64 n.links, .int .i64 n.size, m, .int .i64 n.root, .int .i64 n.parent, .str n.target]
theorem MapR.unown {m : AV} {l : List Ext} (h : MapR m l) : unown m = m := by
  obtain ⟨s, rest, tk, rfl, _, _, ht⟩ := h
  cases tk <;> first | rfl | cases ht
theorem lend_inoA {n : Ino} {m : AV} (h : MapR m n.map) : lend (inoA n m) = inoA n m := by
  show AV.agg [_, _, _, Go.Am.unown m, _, _, _] = _
  rw [h.unown]; rfl
theorem MapR.hf {m : AV} {l : List Ext} (h : MapR m l) : m.hf = true := by
  obtain ⟨s, rest, tk, rfl, _, hr, ht⟩ := h
  simp [AV.hf, hfL_append, hf_extA, hr, ht]
theorem hf_inoA {n : Ino} {m : AV} (h : MapR m n.map) : (inoA n m).hf = true := by
  simp [inoA, AV.hf, hfL, h.hf]
theorem MapR.one {m : AV} {l : List Ext} (h : MapR m l) : m.flat = [m] ∧ m.one = true := by
  obtain ⟨s, rest, tk, rfl, _, hr, ht⟩ := h
  exact ⟨rfl, rfl⟩
theorem samel_m {a b : List Ext} {m k : AV} (ha : MapR m a) (hb : MapR k b) (h1 : a.length ≤ 1000) (h2 : b.length ≤ 1000) (H : Heap) : pcx (cbL tab) 70 [m, k] H = some (.plain (.bool (decide (a = b)))) := by
  obtain ⟨s, rest, tk, rfl, z1, r1, _⟩ := ha
  obtain ⟨s2, rest2, tk2, rfl, z2, r2, _⟩ := hb
  exact samel_px a b rest rest2 s s2 tk tk2 H h1 h2 z1 z2 r1 r2
theorem equall_v {a b : List Ext} {r1 r2 : List AV} {s1 s2 : Nat} {k1 k2 : Tk} {v1 v2 : AV} {H : Heap} (hv1 : lendK H 4 v1 = .sl s1 a.length (encs extA a ++ r1) k1) (hv2 : lendK H 4 v2 = .sl s2 b.length (encs extA b ++ r2) k2)
    (ha : a.length ≤ 1000) (hb : b.length ≤ 1000) (z1 : a ≠ [] → s1 = 3) (z2 : b ≠ [] → s2 = 3) (h1 : hfL r1 = true) (h2 : hfL r2 = true) (t1 : k1.hf = true) (t2 : k2.hf = true) :
    pcx (cbL tab) 75 [v1, v2] H = some (.plain (.bool (decide (a = b)))) :=
  pcx_L rfl (by simp [hv1, hv2]) (equall_pc a b r1 r2 s1 s2 k1 k2 ha hb z1 z2 h1 h2 t1 t2) rfl
theorem equall_m {a b : List Ext} {m k : AV} (ha : MapR m a) (hb : MapR k b) (h1 : a.length ≤ 1000) (h2 : b.length ≤ 1000) (H : Heap) : pcx (cbL tab) 75 [m, k] H = some (.plain (.bool (decide (a = b)))) := by
  obtain ⟨s, rest, tk, rfl, z1, r1, t1⟩ := ha
  obtain ⟨s2, rest2, tk2, rfl, z2, r2, t2⟩ := hb
  exact equall_v (lendK_sl ..) (lendK_sl ..) h1 h2 z1 z2 r1 r2 t1 t2
def sameB (a b : Ino) : Bool := decide (a.kind = b.kind ∧ a.links = b.links ∧ a.size = b.size ∧ a.map = b.map ∧ a.root = b.root ∧ a.parent = b.parent ∧ a.target = b.target)
theorem sameB_iff {a b : Ino} : sameB a b = true ↔ a = b := by
  unfold sameB
  rw [decide_eq_true_eq]
  constructor
  · rintro ⟨h1, h2, h3, h4, h5, h6, h7⟩
    obtain ⟨⟩ := a
    obtain ⟨⟩ := b
    simp only at h1 h2 h3 h4 h5 h6 h7
    subst h1 h2 h3 h4 h5 h6 h7
    rfl
  · rintro rfl
    exact ⟨rfl, rfl, rfl, rfl, rfl, rfl, rfl⟩
end Go.Proofs.Ytncmflmjlocgiaa
