/- THE WALKS OF Bytes. No condition but those stated. -/
import Derived.Test.YtailfegmnkldoaaR5
set_option linter.unusedSimpArgs false
set_option linter.unusedVariables false
set_option linter.unusedSectionVars false
namespace Go.Proofs.Ytailfegmnkldoaa
open Go Go.Am Go.Rec
set_option maxHeartbeats 2000000
set_option maxRecDepth 10000
theorem wrap_u8 (x : Int) : IntKind.u8.wrap x = x % 256 := by simp [IntKind.wrap, IntKind.signed, IntKind.bits]
def byteOf (w : Int) (k : Nat) : UInt8 := UInt8.ofNat (w / 256 ^ k % 256).toNat
theorem byteOf_toNat (w : Int) (k : Nat) : ((byteOf w k).toNat : Int) = w / 256 ^ k % 256 := by
  have h1 : 0 ≤ w / 256 ^ k % 256 := Int.emod_nonneg _ (by decide)
  have h2 : w / 256 ^ k % 256 < 256 := Int.emod_lt_of_pos _ (by decide)
  unfold byteOf
  rw [UInt8.toNat_ofNat', Nat.mod_eq_of_lt (by show _ < 256; omega)]
  omega
theorem bytN_step (w : Int) (k : Nat) : bytN w (k + 1) = bytN w k ++ [byteOf w k] := bytN_snoc w k
theorem wdrop (pre : List Int) (w : Int) (r : List Int) (rest : List AV) : List.drop pre.length (encs u64A (pre ++ w :: r) ++ rest) = .int .u64 w :: (encs u64A r ++ rest) := by
  have := drop_pre2 (f := u64A) pre (w :: r) rest
  rw [Nat.mul_one] at this
  rw [this, encs_cons]; rfl
theorem put_ic (a b k : Nat) (w : Int) (l : List UInt8) (v : AV) (H : Heap) (hab : a ≠ b) (hk : k < 8) (ha : H[a]? = some (.cells [v])) (hb : H[b]? = some (.cells [.int .u64 w]))
    (ho : Own H 1 v l.length (encs byA l)) (hl : l.length ≤ 1000) :
    pcx (cbL tab) 156 [.int .i64 (k : Nat), .ptr a 0, .ptr b 0] H = none ∧ ∃ v' H', (cbL tab).ic 156 [.int .i64 (k : Nat), .ptr a 0, .ptr b 0] H = some (.ret (.tup []), H') ∧ H'[a]? = some (.cells [v']) ∧ H'[b]? = some (.cells [.int .u64 w]) ∧
      Own H' 1 v' (l ++ [byteOf w k]).length (encs byA (l ++ [byteOf w k])) ∧ (∀ s n c, v' ≠ .sl s n c .e) ∧ H.length ≤ H'.length := by
  refine ⟨pcx_none rfl (pc_none (fi := c156) rfl rfl), ?_⟩
  have : ∃ o H', (cbL tab).ic 156 [.int .i64 (k : Nat), .ptr a 0, .ptr b 0] H = some (o, H') ∧ (o = .ret (.tup []) ∧ ∃ v', H'[a]? = some (.cells [v']) ∧ H'[b]? = some (.cells [.int .u64 w]) ∧
      Own H' 1 v' (l ++ [byteOf w k]).length (encs byA (l ++ [byteOf w k])) ∧ (∀ s n c, v' ≠ .sl s n c .e) ∧ H.length ≤ H'.length) := by
    refine ic_wp (fi := c156) rfl rfl (by simp [c156]) (by decide) ?_
    unfold c156
    have sh := fun xo yo ek => u64_shr (xo := xo) (yo := yo) (ek := ek) (a := w) (b := 8 * (k : Int)) (k := .i64) (by omega) (by omega)
    have pw : (2 : Int) ^ (8 * (k : Int)).toNat = 256 ^ k := by
      have : (8 * (k : Int)).toNat = 8 * k := by omega
      rw [this, Int.pow_mul]; rfl
    rw [pw] at sh
    have cv : IntKind.u8.wrap (w / 256 ^ k) = ((byteOf w k).toNat : Int) := by rw [wrap_u8, byteOf_toNat]
    simp (disch := omega) only [wk, avalE, aactE, evPE, boundE, asNat, bv_seql cellsEq_ii, bv_sneqd cellsEq_ii, readC, allOne, fillL, resE, tupled, ↓reduceIte, Nat.reduceEqDiff, Int.reduceEq, Int.reduceLT, Int.reduceLE, Nat.reduceAdd, Nat.reduceMul, Nat.reduceLT, Nat.reduceLeDiff, reduceCtorEq, ha, hb, sh, cv]
    refine runX_app ho (by omega) (by omega) (by omega) (by omega) rfl rfl (fun H1 q1 q2 q3 => ?_)
    have ha1 := q2.cells ho rfl ha (by intro s h; cases h)
    have hb1 := q2.cells ho rfl hb (by intro s h; cases h)
    have la : a < H1.length := (List.getElem?_eq_some_iff.1 ha1).1
    simp (disch := omega) only [wk, avalE, aactE, evPE, boundE, asNat, bv_seql cellsEq_ii, bv_sneqd cellsEq_ii, readC, allOne, fillL, resE, tupled, ↓reduceIte, Nat.reduceEqDiff, Int.reduceEq, Int.reduceLT, Int.reduceLE, Nat.reduceAdd, Nat.reduceMul, Nat.reduceLT, Nat.reduceLeDiff, reduceCtorEq, ha1, List.append_nil]
    refine ⟨_, List.getElem?_set_self la, by rw [List.getElem?_set_ne hab]; exact hb1, ?_, (by intro s n c h; cases h), by rw [List.length_set]; omega⟩
    have e : encs byA l ++ [.int .u8 ((byteOf w k).toNat : Nat)] = encs byA (l ++ [byteOf w k]) := by rw [encs_append]; rfl
    rw [e] at q1 ⊢
    exact q1.set ha1 (by intro s h; cases h)
  obtain ⟨o, H', h1, rfl, v', h2, h3, h4, h5, h6⟩ := this
  exact ⟨v', H', h1, h2, h3, h4, h5, h6⟩
theorem lput : (cbL tab).lent 156 = false := rfl
theorem bytes_px (l : List Int) (rest : List AV) (s : Nat) (tk : Tk) (H : Heap) (hn : l.length ≤ 100) (hs : s = 1) (hr : hfL rest = true) (hw : ∀ w ∈ l, 0 ≤ w ∧ w < 18446744073709551616) :
    pcx (cbL tab) 124 [.sl s l.length (encs u64A l ++ rest) tk] H = some (prRow 1 byA (bytM l)) := by
  subst hs
  obtain ⟨u1, e1, f1⟩ := lend_sl 1 l.length (encs u64A l ++ rest) tk
  refine pcx_N rfl (pc_wp (fi := c124) rfl ?_ (by simp [c124]) (by decide) ?_)
  · simp only [pcOn, List.map_cons, List.map_nil, hfL, hf_lend_sl, hf_lend_int, hf_lend_bool, hf_lend_str, hfL_append, Bool.and_self, Bool.and_true, Bool.true_and, c124, hf_u64A, hr]
  unfold c124
  rw [List.map_cons, List.map_nil, e1]
  simp (disch := omega) only [wk, avalE, aactE, evPE, boundE, asNat, bv_seql cellsEq_ii, bv_sneqd cellsEq_ii, readC, allOne, fillL, resE, tupled, ↓reduceIte, Nat.reduceEqDiff, Int.reduceEq, Int.reduceLT, Int.reduceLE, Nat.reduceAdd, Nat.reduceMul, Nat.reduceLT, Nat.reduceLeDiff, reduceCtorEq]
  refine loop_ind (fun (x : List Int × List Int) E df H => l = x.1 ++ x.2 ∧ E 8 = .sl 1 l.length (encs u64A l ++ rest) u1 ∧ E 9 = .int .i64 (l.length : Nat) ∧ E 10 = .int .i64 (x.1.length : Nat) ∧ E 3 = .ptr 0 0 ∧ (∃ v, H[0]? = some (.cells [v]) ∧ Own H 1 v (bytM x.1).length (encs byA (bytM x.1)) ∧ (∀ s n c, v ≠ .sl s n c .e)) ∧ df = [])
    (fun x => x.2.length) ([], l) (by decide) (.inl rfl) ⟨rfl, rfl, rfl, rfl, rfl, ⟨_, rfl, .inl ⟨.inl rfl, rfl, rfl⟩, (by intro s n c h; cases h)⟩, rfl⟩ ?_
  intro ⟨pre, suf⟩ E df H ih hP
  obtain ⟨a1, E8, E9, E10, E3, ⟨v, hv, ho, hne⟩, hdf⟩ := hP
  dsimp only at a1 E10 ho
  subst hdf
  have hl : l.length = pre.length + suf.length := by rw [a1, List.length_append]
  cases suf with
  | nil =>
    rw [List.append_nil] at a1
    subst a1
    simp (disch := omega) only [wk, avalE, aactE, evPE, boundE, asNat, bv_seql cellsEq_ii, bv_sneqd cellsEq_ii, readC, allOne, fillL, resE, tupled, ↓reduceIte, Nat.reduceEqDiff, Int.reduceEq, Int.reduceLT, Int.reduceLE, Nat.reduceAdd, Nat.reduceMul, Nat.reduceLT, Nat.reduceLeDiff, reduceCtorEq, E3, E8, E9, E10, hv, purify_row (fun _ => rfl) ho (fun _ => hne)]
  | cons w r =>
    simp only [List.length_cons] at hl
    have d := wdrop pre w r rest
    rw [← a1] at d
    have hww := hw w (by rw [a1]; simp)
    have hbl := bytM_len pre
    have n1 : (pre.length : Int) < (l.length : Int) := by omega
    have hne0 : 0 < H.length := (List.getElem?_eq_some_iff.1 hv).1
    have g1 : ∀ o : AObj, (H ++ [o])[H.length]? = some o := fun o => by simp
    have st : ∀ o q : AObj, (H ++ [o]).set H.length q = H ++ [q] := fun o q => by simp
    simp (disch := omega) only [wk, avalE, aactE, evPE, boundE, asNat, bv_seql cellsEq_ii, bv_sneqd cellsEq_ii, readC, allOne, fillL, resE, tupled, ↓reduceIte, Nat.reduceEqDiff, Int.reduceEq, Int.reduceLT, Int.reduceLE, Nat.reduceAdd, Nat.reduceMul, Nat.reduceLT, Nat.reduceLeDiff, reduceCtorEq, E3, E8, E9, E10, d, n1, g1, st]
    refine loop_ind (fun (k : Nat) E df H1 => k ≤ 8 ∧ E 8 = .sl 1 l.length (encs u64A l ++ rest) u1 ∧ E 9 = .int .i64 (l.length : Nat) ∧ E 10 = .int .i64 (pre.length : Nat) ∧ E 3 = .ptr 0 0 ∧ E 6 = .fn 156 [.ptr 0 0, .ptr H.length 0] ∧ E 15 = .int .i64 (k : Nat) ∧
        (∃ v, H1[0]? = some (.cells [v]) ∧ Own H1 1 v (bytM pre ++ bytN w k).length (encs byA (bytM pre ++ bytN w k)) ∧ (∀ s n c, v ≠ .sl s n c .e)) ∧ H1[H.length]? = some (.cells [.int .u64 w]) ∧ df = [])
      (fun k => 8 - k) 0 (by decide) (.inl rfl) ⟨by omega, by simp only [en, ↓reduceIte, Nat.reduceEqDiff, E8], by simp only [en, ↓reduceIte, Nat.reduceEqDiff, E9], by simp only [en, ↓reduceIte, Nat.reduceEqDiff, E10], by simp only [en, ↓reduceIte, Nat.reduceEqDiff, E3], by simp only [en, ↓reduceIte, Nat.reduceEqDiff, E3], by simp only [en, ↓reduceIte, Nat.reduceEqDiff]; rfl, ⟨v, by rw [List.getElem?_append_left hne0]; exact hv, ?_, hne⟩, by simp, rfl⟩ ?_
    · rw [bytN, List.append_nil]
      refine ho.kept (g := none) (fun i o h _ => ?_) (.inl rfl)
      rw [List.getElem?_append_left (List.getElem?_eq_some_iff.1 h).1]; exact h
    clear ho hne hv E3 E8 E9 E10
    intro k E df H1 ih2 hP
    obtain ⟨hk, E8, E9, E10, E3, E6, E15, ⟨v, hv, ho, hne⟩, hb, hdf⟩ := hP
    subst hdf
    by_cases hk8 : k = 8
    · subst hk8
      have i8 : ((8 : Nat) : Int) = 8 := rfl
      rw [i8] at E15
      simp (disch := omega) only [wk, avalE, aactE, evPE, boundE, asNat, bv_seql cellsEq_ii, bv_sneqd cellsEq_ii, readC, allOne, fillL, resE, tupled, ↓reduceIte, Nat.reduceEqDiff, Int.reduceEq, Int.reduceLT, Int.reduceLE, Nat.reduceAdd, Nat.reduceMul, Nat.reduceLT, Nat.reduceLeDiff, reduceCtorEq, E3, E6, E8, E9, E10, E15]
      refine ih (pre ++ [w], r) _ _ _ (by simp) ?_
      have e : bytM (pre ++ [w]) = bytM pre ++ bytN w 8 := by rw [bytM_append, bytM, bytM, List.append_nil]
      refine ⟨by simp [a1], by simp only [en, ↓reduceIte, Nat.reduceEqDiff, E8], by simp only [en, ↓reduceIte, Nat.reduceEqDiff, E9], by simp only [en, ↓reduceIte, Nat.reduceEqDiff], by simp only [en, ↓reduceIte, Nat.reduceEqDiff, E3], ⟨v, hv, ?_, hne⟩, rfl⟩
      dsimp only
      rw [e]
      exact ho
    · have n8 : (k : Int) < 8 := by omega
      have lk : (bytM pre ++ bytN w k).length ≤ 1000 := by rw [List.length_append, bytN_len, hbl]; omega
      obtain ⟨c1, v', H2, c2, c3, c4, c5, c6, c7⟩ := put_ic 0 H.length k w (bytM pre ++ bytN w k) v H1 (by omega) (by omega) hv hb ho lk
      simp (disch := omega) only [wk, avalE, aactE, evPE, boundE, asNat, bv_seql cellsEq_ii, bv_sneqd cellsEq_ii, readC, allOne, fillL, resE, tupled, ↓reduceIte, Nat.reduceEqDiff, Int.reduceEq, Int.reduceLT, Int.reduceLE, Nat.reduceAdd, Nat.reduceMul, Nat.reduceLT, Nat.reduceLeDiff, reduceCtorEq, E3, E6, E8, E9, E10, E15, n8, c1, runE_none lput, c2]
      refine ih2 (k + 1) _ _ _ (by omega) ?_
      rw [List.append_assoc, ← bytN_step] at c5
      exact ⟨by omega, by simp only [en, ↓reduceIte, Nat.reduceEqDiff, E8], by simp only [en, ↓reduceIte, Nat.reduceEqDiff, E9], by simp only [en, ↓reduceIte, Nat.reduceEqDiff, E10], by simp only [en, ↓reduceIte, Nat.reduceEqDiff, E3], by simp only [en, ↓reduceIte, Nat.reduceEqDiff, E6], by simp only [en, ↓reduceIte, Nat.reduceEqDiff], ⟨v', c3, c5, c6⟩, c4, rfl⟩
end Go.Proofs.Ytailfegmnkldoaa
