/- THE WALKS OF strings.Split AT A SLASH. No condition but those stated. -/
import Derived.Test.YtmogflndepihnaaDoorK1
set_option linter.unusedSimpArgs false
set_option linter.unusedVariables false
set_option linter.unusedSectionVars false
namespace Go.Proofs.YtmogflndepihnaaDoor
open Go Go.Am Go.Rec Go.Nam
set_option maxHeartbeats 4000000
set_option maxRecDepth 10000
/-- A text as a cell. -/
def strA (x : List UInt8) : List AV := [.str (bs x)]
instance : Even strA 1 := ⟨fun _ => rfl⟩
theorem hf_strA (l : List (List UInt8)) : hfL (encs strA l) = true := hfL_encs (fun _ => rfl) l
theorem one_strA (l : List (List UInt8)) : allOne (encs strA l) = true := allOne_encs (fun _ => rfl) l
theorem lenS (l : List (List UInt8)) : (encs strA l).length = l.length := by rw [encs_length, Nat.mul_one]
theorem encs_mapS (l : List (List UInt8)) : encs strA l = l.map fun x => .str (bs x) := by
  induction l with
  | nil => rfl
  | cons x r ih => rw [encs_cons, ih]; rfl
theorem setS (t : List (List UInt8)) (i : Nat) (v : List UInt8) (h : i < t.length) : List.take i (encs strA t) ++ [AV.str (bs v)] ++ List.drop (i + 1) (encs strA t) = encs strA (t.set i v) := by
  rw [encs_mapS, encs_mapS, List.map_set, List.append_assoc, List.set_eq_take_append_cons_drop, if_pos (by simpa using h)]
  rfl
theorem repL_str (m : Nat) : repL m [AV.str (ByteArray.mk (Array.mk []))] = encs strA (List.replicate m []) := by
  induction m with
  | zero => rfl
  | succ m ih => rw [repL, ih, List.replicate_succ, encs_cons]; rfl
theorem madeS {n : Nat} (h : n ≤ 100000) : madeN 1 16 [AV.str (ByteArray.mk (Array.mk []))] (.int .i64 n) (.int .i64 n) = some n := by
  show (if ((n : Int) = n ∧ 0 ≤ (n : Int) ∧ [AV.str (ByteArray.mk (Array.mk []))].length = 1 ∧ allOne [AV.str (ByteArray.mk (Array.mk []))] = true ∧ (n : Int).toNat * 16 ≤ 70368744177664 ∧ (n : Int).toNat ≤ 70368744177664) then some (n : Int).toNat else none) = some n
  rw [if_pos ⟨rfl, by omega, rfl, rfl, by rw [Int.toNat_natCast]; omega, by rw [Int.toNat_natCast]; omega⟩, Int.toNat_natCast]
abbrev slB : ByteArray := ByteArray.mk (Array.mk [UInt8.ofNat 47])
theorem count_px (l : List UInt8) (H : Heap) : pcx (cbL tab) 90 [.str (bs l), .str slB] H = some (.plain (.int .i64 (l.count 47 : Nat))) := by
  refine pcx_N rfl (pc_wp (fi := c90) rfl rfl (by simp [c90]) (by decide) ?_)
  unfold c90
  rw [List.map_cons, List.map_cons, List.map_nil, lend_str, lend_str]
  have z : slB.size = 1 := rfl
  have z2 : slB[0]? = some 47 := rfl
  have i1 : ((1 : Nat) : Int) = 1 := rfl
  have i0 : (0 : Int).toNat = 0 := rfl
  have e : UInt8.ofNat (UInt8.toNat 47) = 47 := rfl
  simp (disch := omega) only [wk, avalE, aactE, evPE, boundE, asNat, bv_seql cellsEq_ii, bv_sneqd cellsEq_ii, readC, allOne, fillL, resE, tupled, ↓reduceIte, Nat.reduceEqDiff, Int.reduceEq, Int.reduceLT, Int.reduceLE, Nat.reduceAdd, Nat.reduceMul, Nat.reduceLT, Nat.reduceLeDiff, reduceCtorEq, z, z2, i1, i0, Option.map_some, e, bs_data, purify, unownT, AV.hf]
theorem indexS_px (l : List UInt8) (H : Heap) : pcx (cbL tab) 81 [.str (bs l), .str slB] H = some (.plain (idxV (idxB 47 l))) := by
  refine pcx_N rfl (pc_wp (fi := c81) rfl rfl (by simp [c81]) (by decide) ?_)
  unfold c81
  rw [List.map_cons, List.map_cons, List.map_nil, lend_str, lend_str]
  have p1 : ∀ H, pcx (cbL tab) 88 [.str (bs l), .str slB] H = _ := fun H => index_px (bs l) (UInt8.ofNat 47) H
  rw [bs_data] at p1
  have e : UInt8.ofNat 47 = 47 := rfl
  rw [e] at p1
  cases h : idxB 47 l <;> simp (disch := omega) only [wk, avalE, aactE, evPE, boundE, asNat, bv_seql cellsEq_ii, bv_sneqd cellsEq_ii, readC, allOne, fillL, resE, tupled, ↓reduceIte, Nat.reduceEqDiff, Int.reduceEq, Int.reduceLT, Int.reduceLE, Nat.reduceAdd, Nat.reduceMul, Nat.reduceLT, Nat.reduceLeDiff, reduceCtorEq, p1, e, h, idxV, purify, unownT, AV.hf]
theorem idxB_lt {c : UInt8} : ∀ {l : List UInt8} {m : Nat}, idxB c l = some m → m < l.length
  | [], m, h => by cases h
  | b :: r, m, h => by
    rw [idxB] at h
    split at h
    · cases h; simp
    · obtain ⟨k, hk, rfl⟩ := Option.map_eq_some_iff.1 h
      have := idxB_lt hk
      simp; omega
theorem genSplit_ic (l : List UInt8) (hn : l.length ≤ 5000) (H : Heap) :
    (cbL tab).ic 83 [.str (bs l), .str slB, .int .i64 0, .int .i64 (-(0 + 1))] H = some (.ret (.msl 1 H.length 0 (splS [] l).length), H ++ [.cells (encs strA (splS [] l))]) := by
  have key : ∃ o H', (cbL tab).ic 83 [.str (bs l), .str slB, .int .i64 0, .int .i64 (-(0 + 1))] H = some (o, H') ∧ o = .ret (.msl 1 H.length 0 (splS [] l).length) ∧ H' = H ++ [.cells (encs strA (splS [] l))] := by
    refine ic_wp (fi := c83) rfl rfl (by simp [c83]) (by decide) ?_
    unfold c83
    have hc := splS_count l []
    obtain ⟨n, hN⟩ : ∃ n, n = l.count 47 + 1 := ⟨_, rfl⟩
    rw [← hN] at hc
    have hcl : l.count 47 ≤ l.length := List.count_le_length
    have ct := fun H => count_px l H
    have e0 : ((bs l).size : Int) = l.length := by rw [bs_size]
    have eN : ((l.count 47 : Nat) : Int) + 1 = (n : Int) := by omega
    have nm : ¬ ((l.length : Nat) : Int) + 1 < (n : Int) := by omega
    have mk := madeS (n := n) (by omega)
    have ks : slB.toList = [47] := (ByteArray.toList_eq _).trans rfl
    have kn : (([47] : List UInt8) == []) = false := rfl
    have m1 : ¬ -((0 : Int) + 1) = 0 := by decide
    have m2 : -((0 : Int) + 1) < 0 := by decide
    have hnn : (n : Int) - 1 = ((n - 1 : Nat) : Int) := by omega
    simp (disch := omega) only [wk, avalE, aactE, evPE, boundE, asNat, bv_seql cellsEq_ii, bv_sneqd cellsEq_ii, readC, allOne, fillL, resE, tupled, ↓reduceIte, Nat.reduceEqDiff, Int.reduceEq, Int.reduceLT, Int.reduceLE, Nat.reduceAdd, Nat.reduceMul, Nat.reduceLT, Nat.reduceLeDiff, reduceCtorEq, ct, e0, eN, nm, mk, bv_streq, ks, k0, kn, m1, m2, repL_str, hnn]
    have g0 : ∀ (L : List AObj), (H ++ L)[H.length]? = L[0]? := fun L => by rw [List.getElem?_append_right (by omega)]; congr 1; omega
    have s0 : ∀ (L : List AObj) (o : AObj), (H ++ L).set H.length o = H ++ L.set 0 o := fun L o => by rw [List.set_append_right _ _ (by omega)]; congr 2; omega
    refine loop_ind (fun (x : List (List UInt8) × List UInt8) E df H' => splS [] l = x.1 ++ splS [] x.2 ∧ x.2.length ≤ l.length ∧ E 0 = .str (bs x.2) ∧ E 1 = .str slB ∧ E 2 = .int .i64 0 ∧ E 3 = .int .i64 (n - 1 : Nat) ∧ E 9 = .msl 1 H.length 0 n ∧ E 10 = .int .i64 (x.1.length : Nat) ∧ df = [] ∧
        H' = H ++ [.cells (encs strA (x.1 ++ List.replicate (n - x.1.length) []))])
      (fun x => n - x.1.length) ([], l) (by decide) (.inl rfl) ⟨rfl, Nat.le_refl _, rfl, rfl, rfl, rfl, rfl, rfl, rfl, rfl⟩ ?_
    intro ⟨pre, r⟩ E df H1 ih hP
    obtain ⟨a1, a2, E0, E1, E2, E3, E9, E10, hdf, hH⟩ := hP
    dsimp only at a1 a2 E0 E10 hH
    subst hdf hH
    have hsr := splS_count r []
    have hln : pre.length + (r.count 47 + 1) = n := by rw [← hc, a1, List.length_append, hsr]
    have hcr : r.count 47 ≤ r.length := List.count_le_length
    have hrow : (pre ++ List.replicate (n - pre.length) ([] : List UInt8)).length = n := by rw [List.length_append, List.length_replicate]; omega
    have lrow : (encs strA (pre ++ List.replicate (n - pre.length) ([] : List UInt8))).length = n := by rw [lenS, hrow]
    have am : (0 : Int) ≤ (pre.length : Nat) ∧ ((pre.length : Nat) : Int) < (n : Int) := by omega
    have tn : Int.toNat ((pre.length : Nat) : Int) = pre.length := Int.toNat_natCast _
    have le1 : pre.length + 1 ≤ n := by omega
    have su := fun v => setS (pre ++ List.replicate (n - pre.length) ([] : List UInt8)) pre.length v (by omega)
    cases hi : idxB 47 r with
    | none =>
      have hs := splS_idx r []
      rw [hi] at hs
      simp only [List.nil_append] at hs
      have h1 : n = pre.length + 1 := by rw [hs] at hsr; simp only [List.length_cons, List.length_nil] at hsr; omega
      have nlt : ¬ ((pre.length : Nat) : Int) < ((n - 1 : Nat) : Int) := by omega
      have hset : (pre ++ List.replicate (n - pre.length) ([] : List UInt8)).set pre.length r = splS [] l := by
        rw [a1, hs, h1]
        simp
      have ep : ((pre.length : Nat) : Int) + 1 = (n : Int) := by omega
      have nz : ¬ (0 : Nat) = n := by omega
      simp (disch := omega) only [wk, avalE, aactE, evPE, boundE, asNat, bv_seql cellsEq_ii, bv_sneqd cellsEq_ii, readC, allOne, fillL, resE, tupled, ↓reduceIte, Nat.reduceEqDiff, Int.reduceEq, Int.reduceLT, Int.reduceLE, Nat.reduceAdd, Nat.reduceMul, Nat.reduceLT, Nat.reduceLeDiff, reduceCtorEq, E0, E1, E2, E3, E9, E10, nlt, g0, s0, am, lrow, le1, su, hset, ep, nz, Nat.zero_add, hc, hc]
    | some m =>
      have hm := idxB_lt hi
      have hs := splS_idx r []
      rw [hi] at hs
      simp only [List.nil_append] at hs
      have hsr2 := splS_count (r.drop (m + 1)) []
      have h1 : r.count 47 = (r.drop (m + 1)).count 47 + 1 := by
        have := congrArg List.length hs
        rw [hsr, List.length_cons, hsr2] at this
        omega
      have lt : ((pre.length : Nat) : Int) < ((n - 1 : Nat) : Int) := by omega
      have ip := fun H => indexS_px r H
      rw [hi] at ip
      simp only [idxV] at ip
      have nl : ¬ ((m : Nat) : Int) < 0 := by omega
      have z0 : ((m : Nat) : Int) + 0 = (m : Nat) := by omega
      have mle : m ≤ (bs r).size := by rw [bs_size]; omega
      have m1le : m + 1 ≤ (bs r).size := by rw [bs_size]; omega
      have ex1 : (bs r).extract 0 m = bs (r.take m) := by rw [bs_extract]; simp
      have ex2 : (bs r).extract (m + 1) (bs r).size = bs (r.drop (m + 1)) := by
        rw [bs_extract, bs_size, List.take_of_length_le (by rw [List.length_drop]; exact Nat.le_refl _)]
      have zs : (slB.size : Int) = 1 := rfl
      have tm1 : Int.toNat (((m : Nat) : Int) + 1) = m + 1 := by omega
      have p1 : (0 : Int) ≤ ((m : Nat) : Int) + 1 := by omega
      have hset : (pre ++ List.replicate (n - pre.length) ([] : List UInt8)).set pre.length (r.take m) = (pre ++ [r.take m]) ++ List.replicate (n - (pre ++ [r.take m]).length) [] := by
        have : n - pre.length = (n - (pre.length + 1)) + 1 := by omega
        rw [this, List.replicate_succ, List.set_append_right _ _ (Nat.le_refl _), Nat.sub_self, List.set_cons_zero]
        simp
      have ml0 : 0 ≤ m := Nat.zero_le _
      simp (disch := omega) only [wk, avalE, aactE, evPE, boundE, asNat, bv_seql cellsEq_ii, bv_sneqd cellsEq_ii, readC, allOne, fillL, resE, tupled, ↓reduceIte, Nat.reduceEqDiff, Int.reduceEq, Int.reduceLT, Int.reduceLE, Nat.reduceAdd, Nat.reduceMul, Nat.reduceLT, Nat.reduceLeDiff, reduceCtorEq, E0, E1, E2, E3, E9, E10, lt, ip, nl, z0, mle, m1le, ml0, ex1, ex2, zs, tm1, p1, g0, s0, am, lrow, le1, su, hset, Nat.zero_add]
      refine ih (pre ++ [r.take m], r.drop (m + 1)) _ _ _ (by dsimp only; rw [List.length_append, List.length_cons, List.length_nil]; omega) ?_
      exact ⟨by dsimp only; rw [a1, hs]; simp, by dsimp only; rw [List.length_drop]; omega, by simp only [en, ↓reduceIte, Nat.reduceEqDiff], by simp only [en, ↓reduceIte, Nat.reduceEqDiff, E1], by simp only [en, ↓reduceIte, Nat.reduceEqDiff, E2], by simp only [en, ↓reduceIte, Nat.reduceEqDiff, E3], by simp only [en, ↓reduceIte, Nat.reduceEqDiff, E9], by simp only [en, ↓reduceIte, Nat.reduceEqDiff], rfl, by rw [List.length_append]; rfl⟩
  obtain ⟨o, H', h, rfl, rfl⟩ := key
  exact h
end Go.Proofs.YtmogflndepihnaaDoor
