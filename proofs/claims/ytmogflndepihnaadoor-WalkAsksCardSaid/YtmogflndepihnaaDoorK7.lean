/- THE WALKS OF Same, few, joined, Joined, Short. No condition but those stated. -/
import Derived.Test.YtmogflndepihnaaDoorK6
set_option linter.unusedSimpArgs false
set_option linter.unusedVariables false
set_option linter.unusedSectionVars false
namespace Go.Proofs.YtmogflndepihnaaDoor
open Go Go.Am Go.Rec Go.Nam
set_option maxHeartbeats 4000000
set_option maxRecDepth 10000
theorem strsA_encs (ps : List (List UInt8)) : strsA (encs strA ps) = some (ps.map bs) := by
  induction ps with
  | nil => rfl
  | cons p r ih =>
    show (strsA (encs strA r)).map (bs p :: ·) = _
    rw [ih]; rfl
theorem joinB_bs (ps : List (List UInt8)) : joinB (ps.map bs) = joinS ps := by
  induction ps with
  | nil => rfl
  | cons p r ih =>
    have e1 : joinB ((p :: r).map bs) = (47 :: (bs p).data.toList) ++ joinB (r.map bs) := rfl
    have e2 : joinS (p :: r) = (47 :: p) ++ joinS r := rfl
    rw [e1, e2, ih, bs_data]
theorem joinR_bs (ps : List (List UInt8)) : joinR (ps.map bs) = bs (joinM ps) := by
  unfold joinR joinM
  rw [joinB_bs]
  cases ps with
  | nil => rfl
  | cons p r =>
    have e2 : joinS (p :: r) = 47 :: (p ++ joinS r) := rfl
    rw [if_neg (by rw [e2]; intro h; cases h), if_neg (by intro h; cases h)]
    rfl
theorem joined_px (ps : List (List UInt8)) (s : Nat) (cs : List AV) (tk : Tk) (hc : cs.take ps.length = encs strA ps) (hs : ps ≠ [] → s = 1) (h1 : ps.length ≤ 4294967296) (h2 : (joinS ps).length ≤ 4294967296) (H : Heap) :
    pcx (cbL tab) 63 [.sl s ps.length cs tk] H = some (.plain (.str (bs (joinM ps)))) := by
  refine pcx_N rfl (pc_con (g := joinC) rfl rfl ?_)
  unfold joinC
  simp only [hc, strsA_encs]
  rw [if_pos, joinR_bs]
  refine ⟨by simp, ?_, h1, by rw [joinB_bs]; exact h2⟩
  cases ps with
  | nil => exact .inl rfl
  | cons p r => exact .inr (hs (by intro h; cases h))
theorem strne' {xo yo : X} {ek : EqK} {a b : ByteArray} : binV .neq ek xo yo (.str a) (.str b) = some (.bool (!(a.toList == b.toList))) := rfl
theorem same_px (a b : List (List UInt8)) (s1 s2 : Nat) (k1 k2 : Tk) (ha : a.length ≤ 100000) (hb : b.length ≤ 100000) (z1 : a ≠ [] → s1 = 1) (z2 : b ≠ [] → s2 = 1) (H : Heap) :
    pcx (cbL tab) 20 [.sl s1 a.length (encs strA a) k1, .sl s2 b.length (encs strA b) k2] H = some (.plain (.bool (decide (a = b)))) := by
  obtain ⟨u1, e1, f1⟩ := lend_sl s1 a.length (encs strA a) k1
  obtain ⟨u2, e2, f2⟩ := lend_sl s2 b.length (encs strA b) k2
  refine pcx_N rfl (pc_wp (fi := c20) rfl ?_ (by simp [c20]) (by decide) ?_)
  · simp only [pcOn, List.map_cons, List.map_nil, hfL, hf_lend_sl, hf_lend_int, hf_lend_bool, hf_lend_str, hfL_append, Bool.and_self, Bool.and_true, Bool.true_and, c20, hf_strA]
  unfold c20
  rw [List.map_cons, List.map_cons, List.map_nil, e1, e2]
  by_cases hl : (a.length : Int) = (b.length : Int)
  case neg =>
    have : ¬ a = b := fun h => hl (by rw [h])
    simp (disch := omega) only [wk, avalE, aactE, evPE, boundE, asNat, bv_seql cellsEq_ii, bv_sneqd cellsEq_ii, readC, allOne, fillL, resE, tupled, ↓reduceIte, Nat.reduceEqDiff, Int.reduceEq, Int.reduceLT, Int.reduceLE, Nat.reduceAdd, Nat.reduceMul, Nat.reduceLT, Nat.reduceLeDiff, reduceCtorEq, hl, this, purify, unownT, AV.hf]
  have hl' : a.length = b.length := by omega
  simp (disch := omega) only [wk, avalE, aactE, evPE, boundE, asNat, bv_seql cellsEq_ii, bv_sneqd cellsEq_ii, readC, allOne, fillL, resE, tupled, ↓reduceIte, Nat.reduceEqDiff, Int.reduceEq, Int.reduceLT, Int.reduceLE, Nat.reduceAdd, Nat.reduceMul, Nat.reduceLT, Nat.reduceLeDiff, reduceCtorEq, hl]
  refine loop_ind (fun (x : List (List UInt8) × List (List UInt8) × List (List UInt8)) E df H => a = x.1 ++ x.2.1 ∧ b = x.1 ++ x.2.2 ∧ E 0 = .sl s1 a.length (encs strA a) u1 ∧ E 1 = .sl s2 b.length (encs strA b) u2 ∧ E 5 = .int .i64 (x.1.length : Nat) ∧ df = [] ∧ H = [])
    (fun x => x.2.1.length) ([], a, b) (by decide) (.inl rfl) ⟨rfl, rfl, rfl, rfl, rfl, rfl, rfl⟩ ?_
  intro ⟨pre, sa, sb⟩ E df H ih hP
  obtain ⟨a1, a2, E0, E1, E5, hdf, hH⟩ := hP
  dsimp only at a1 a2 E5
  subst hdf hH
  have la : a.length = pre.length + sa.length := by rw [a1, List.length_append]
  have lb : b.length = pre.length + sb.length := by rw [a2, List.length_append]
  cases sa with
  | nil =>
    have : sb = [] := List.eq_nil_of_length_eq_zero (by simp at la; omega)
    subst this
    have heq : a = b := by rw [a1, a2]
    have n1 : ¬ (pre.length : Int) < (a.length : Int) := by simp at la; omega
    simp (disch := omega) only [wk, avalE, aactE, evPE, boundE, asNat, bv_seql cellsEq_ii, bv_sneqd cellsEq_ii, readC, allOne, fillL, resE, tupled, ↓reduceIte, Nat.reduceEqDiff, Int.reduceEq, Int.reduceLT, Int.reduceLE, Nat.reduceAdd, Nat.reduceMul, Nat.reduceLT, Nat.reduceLeDiff, reduceCtorEq, E0, E1, E5, n1, heq, purify, unownT, AV.hf]
  | cons x ra =>
    cases sb with
    | nil => simp at la lb; omega
    | cons y rb =>
      simp only [List.length_cons] at la lb
      have n1 : (pre.length : Int) < (a.length : Int) := by omega
      have n2 : (pre.length : Int) < (b.length : Int) := by omega
      have d1 : List.drop pre.length (encs strA a) = .str (bs x) :: encs strA ra := by
        have := drop_pre (f := strA) pre (x :: ra)
        rw [Nat.mul_one] at this
        rw [a1, this]; rfl
      have d2 : List.drop pre.length (encs strA b) = .str (bs y) :: encs strA rb := by
        have := drop_pre (f := strA) pre (y :: rb)
        rw [Nat.mul_one] at this
        rw [a2, this]; rfl
      have s1' := z1 (by rw [a1]; simp)
      have s2' := z2 (by rw [a2]; simp)
      subst s1' s2'
      cases hxy : (x == y) with
      | true =>
        have hxy' : x = y := eq_of_beq hxy
        subst hxy'
        simp (disch := omega) only [wk, avalE, aactE, evPE, boundE, asNat, bv_seql cellsEq_ii, bv_sneqd cellsEq_ii, readC, allOne, fillL, resE, tupled, ↓reduceIte, Nat.reduceEqDiff, Int.reduceEq, Int.reduceLT, Int.reduceLE, Nat.reduceAdd, Nat.reduceMul, Nat.reduceLT, Nat.reduceLeDiff, reduceCtorEq, E0, E1, E5, n1, n2, d1, d2, strne', bs_toList, hxy]
        refine ih (pre ++ [x], ra, rb) _ _ _ (by simp) ?_
        exact ⟨by simp [a1], by simp [a2], by simp only [en, ↓reduceIte, Nat.reduceEqDiff, E0], by simp only [en, ↓reduceIte, Nat.reduceEqDiff, E1], by simp only [en, ↓reduceIte, Nat.reduceEqDiff], rfl, rfl⟩
      | false =>
        have : ¬ a = b := by rw [a1, a2]; simp; intro h; simp [h] at hxy
        simp (disch := omega) only [wk, avalE, aactE, evPE, boundE, asNat, bv_seql cellsEq_ii, bv_sneqd cellsEq_ii, readC, allOne, fillL, resE, tupled, ↓reduceIte, Nat.reduceEqDiff, Int.reduceEq, Int.reduceLT, Int.reduceLE, Nat.reduceAdd, Nat.reduceMul, Nat.reduceLT, Nat.reduceLeDiff, reduceCtorEq, E0, E1, E5, n1, n2, d1, d2, strne', bs_toList, hxy, this, purify, unownT, AV.hf]
theorem str_add {xo yo : X} {ek : EqK} {a b : List UInt8} (h : a.length + b.length ≤ 9223372036854775807) : binV .add ek xo yo (.str (bs a)) (.str (bs b)) = some (.str (bs (a ++ b))) := by
  show (if (bs a).size + (bs b).size ≤ 9223372036854775807 then some (AV.str (bs a ++ bs b)) else none) = _
  rw [if_pos (by rw [bs_size, bs_size]; exact h), bs_append]
theorem rjoined_px (ps : List (List UInt8)) (s : Nat) (cs : List AV) (tk : Tk) (hc : ∃ rest, cs = encs strA ps ++ rest ∧ hfL rest = true) (hs : ps ≠ [] → s = 1) (h1 : ps.length ≤ 100000) (h2 : (joinS ps).length ≤ 1000000) (H : Heap) :
    pcx (cbL tab) 28 [.sl s ps.length cs tk] H = some (.plain (.str (bs (joinM ps)))) := by
  obtain ⟨rest, rfl, hr⟩ := hc
  obtain ⟨u1, e1, f1⟩ := lend_sl s ps.length (encs strA ps ++ rest) tk
  refine pcx_N rfl (pc_wp (fi := c28) rfl ?_ (by simp [c28]) (by decide) ?_)
  · simp only [pcOn, List.map_cons, List.map_nil, hfL, hf_lend_sl, hf_lend_int, hf_lend_bool, hf_lend_str, hfL_append, Bool.and_self, Bool.and_true, Bool.true_and, c28, hf_strA, hr]
  unfold c28
  rw [List.map_cons, List.map_nil, e1]
  simp (disch := omega) only [wk, avalE, aactE, evPE, boundE, asNat, bv_seql cellsEq_ii, bv_sneqd cellsEq_ii, readC, allOne, fillL, resE, tupled, ↓reduceIte, Nat.reduceEqDiff, Int.reduceEq, Int.reduceLT, Int.reduceLE, Nat.reduceAdd, Nat.reduceMul, Nat.reduceLT, Nat.reduceLeDiff, reduceCtorEq]
  refine loop_ind (fun (x : List (List UInt8) × List (List UInt8)) E df H => ps = x.1 ++ x.2 ∧ E 0 = .sl s ps.length (encs strA ps ++ rest) u1 ∧ E 3 = .str (bs (joinS x.1)) ∧ E 4 = .int .i64 (x.1.length : Nat) ∧ df = [] ∧ H = [])
    (fun x => x.2.length) ([], ps) (by decide) (.inl rfl) ⟨rfl, rfl, rfl, rfl, rfl, rfl⟩ ?_
  intro ⟨pre, suf⟩ E df H ih hP
  obtain ⟨a1, E0, E3, E4, hdf, hH⟩ := hP
  dsimp only at a1 E3 E4
  subst hdf hH
  have la : ps.length = pre.length + suf.length := by rw [a1, List.length_append]
  have jl : (joinS pre).length ≤ 1000000 := by
    have : joinS ps = joinS pre ++ joinS suf := by rw [a1, joinS, joinS, joinS, List.flatMap_append]
    rw [this, List.length_append] at h2; omega
  cases suf with
  | nil =>
    have n1 : ¬ (pre.length : Int) < (ps.length : Int) := by simp at la; omega
    rw [List.append_nil] at a1
    subst a1
    have jm : joinM ps = if joinS ps = [] then [47] else joinS ps := by
      unfold joinM
      cases ps with
      | nil => rfl
      | cons p r =>
        have e2 : joinS (p :: r) = 47 :: (p ++ joinS r) := rfl
        rw [if_neg (by intro h; cases h), if_neg (by rw [e2]; intro h; cases h)]
    cases hj : (joinS ps == []) with
    | true =>
      have : joinS ps = [] := eq_of_beq hj
      rw [jm, if_pos this]
      simp (disch := omega) only [wk, avalE, aactE, evPE, boundE, asNat, bv_seql cellsEq_ii, bv_sneqd cellsEq_ii, readC, allOne, fillL, resE, tupled, ↓reduceIte, Nat.reduceEqDiff, Int.reduceEq, Int.reduceLT, Int.reduceLE, Nat.reduceAdd, Nat.reduceMul, Nat.reduceLT, Nat.reduceLeDiff, reduceCtorEq, E0, E3, E4, n1, bv_streq, k0, bs_toList, hj, purify, unownT, AV.hf]
      rfl
    | false =>
      have : ¬ joinS ps = [] := fun e => by rw [e] at hj; cases hj
      rw [jm, if_neg this]
      simp (disch := omega) only [wk, avalE, aactE, evPE, boundE, asNat, bv_seql cellsEq_ii, bv_sneqd cellsEq_ii, readC, allOne, fillL, resE, tupled, ↓reduceIte, Nat.reduceEqDiff, Int.reduceEq, Int.reduceLT, Int.reduceLE, Nat.reduceAdd, Nat.reduceMul, Nat.reduceLT, Nat.reduceLeDiff, reduceCtorEq, E0, E3, E4, n1, bv_streq, k0, bs_toList, hj, purify, unownT, AV.hf]
  | cons x r =>
    have hs1 := hs (by rw [a1]; simp)
    subst hs1
    have n1 : (pre.length : Int) < (ps.length : Int) := by rw [la]; simp; omega
    have d1 : List.drop pre.length (encs strA ps ++ rest) = .str (bs x) :: (encs strA r ++ rest) := by
      have := drop_pre2 (f := strA) pre (x :: r) rest
      rw [Nat.mul_one] at this
      rw [a1, this]; rfl
    have ej : joinS (pre ++ [x]) = joinS pre ++ [47] ++ x := by rw [joinS, joinS, List.flatMap_append]; simp
    have jl2 : (joinS pre).length + (x.length + 1) ≤ 1000000 := by
      have : joinS ps = joinS pre ++ (47 :: x ++ joinS r) := by rw [a1, joinS, joinS, List.flatMap_append]; rfl
      rw [this] at h2
      simp only [List.length_append, List.length_cons] at h2; omega
    have sb : bs [47] = slB := rfl
    have ad1 : ∀ xo yo ek, binV .add ek xo yo (.str (bs (joinS pre))) (.str slB) = some (.str (bs (joinS pre ++ [47]))) := fun xo yo ek => by rw [← sb]; exact str_add (by simp; omega)
    have ad2 : ∀ xo yo ek, binV .add ek xo yo (.str (bs (joinS pre ++ [47]))) (.str (bs x)) = some (.str (bs (joinS (pre ++ [x])))) := fun xo yo ek => by rw [ej]; exact str_add (by simp; omega)
    simp (disch := omega) only [wk, avalE, aactE, evPE, boundE, asNat, bv_seql cellsEq_ii, bv_sneqd cellsEq_ii, readC, allOne, fillL, resE, tupled, ↓reduceIte, Nat.reduceEqDiff, Int.reduceEq, Int.reduceLT, Int.reduceLE, Nat.reduceAdd, Nat.reduceMul, Nat.reduceLT, Nat.reduceLeDiff, reduceCtorEq, E0, E3, E4, n1, d1, ad1, ad2]
    refine ih (pre ++ [x], r) _ _ _ (by simp) ?_
    exact ⟨by simp [a1], by simp only [en, ↓reduceIte, Nat.reduceEqDiff, E0], by simp only [en, ↓reduceIte, Nat.reduceEqDiff], by simp only [en, ↓reduceIte, Nat.reduceEqDiff], rfl, rfl⟩
end Go.Proofs.YtmogflndepihnaaDoor
