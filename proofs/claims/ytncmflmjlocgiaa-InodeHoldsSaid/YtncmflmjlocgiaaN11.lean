/- THE WALKS OF WHAT TAKES AN INODE FROM WORDS. No condition but those stated. -/
import Derived.Test.YtncmflmjlocgiaaN8
set_option linter.unusedSimpArgs false
set_option linter.unusedVariables false
set_option linter.unusedSectionVars false
namespace Go.Proofs.Ytncmflmjlocgiaa
open Go Go.Am Go.Rec Go.Ino
set_option maxHeartbeats 4000000
set_option maxRecDepth 10000
theorem unb (l : List UInt8) (m : Nat) : unbytes (List.take m (encs byA l)) = some (l.take m) := by
  have := encs_take (f := byA) l m
  rw [Nat.mul_one] at this
  rw [this, unbytes_encs]
def w10 (w2 w3 : Int) (r : List Int) : List Int := w2 :: w3 :: r.take 8
def textI (w1 w2 w3 : Int) (r : List Int) : ByteArray := ⟨((bytM (w2 :: w3 :: r)).take w1.toNat).toArray⟩
/-- The inode that words tell, right or not. -/
def decI (w0 w1 w2 w3 : Int) (r : List Int) : Ino :=
  ⟨w0 % 256, w0 / 256 % 16777216, if w0 % 256 = 1 then w1 else 0, if w0 % 256 = 1 then readE (w10 w2 w3 r) else [], if w0 % 256 = 2 then w2 else 0, if w0 % 256 = 2 then w3 else 0,
    if w0 % 256 = 3 then textI w1 w2 w3 r else ⟨#[]⟩⟩
def goodI (w0 w1 w2 w3 : Int) (r : List Int) : Prop := okI (decI w0 w1 w2 w3 r) ∧ wordsI (decI w0 w1 w2 w3 r) = w0 :: w1 :: w2 :: w3 :: r
instance (w0 w1 w2 w3 : Int) (r : List Int) : Decidable (goodI w0 w1 w2 w3 r) := inferInstanceAs (Decidable (_ ∧ _))
def mapV (l : List Ext) : AV := slvR 3 extA l
theorem MapR.of (l : List Ext) : MapR (mapV l) l := by
  unfold mapV slvR
  cases l with
  | nil => exact MapR.nil
  | cons x r => exact ⟨3, [], .ro, by rw [List.append_nil]; rfl, fun _ => rfl, rfl, rfl⟩
def wlit (w0 w1 w2 w3 : Int) (r : List Int) (rest : List AV) : List AV := .int .u64 w0 :: .int .u64 w1 :: .int .u64 w2 :: .int .u64 w3 :: (encs u64A r ++ rest)
theorem wlit_eq (w0 w1 w2 w3 : Int) (r : List Int) (rest : List AV) : encs u64A (w0 :: w1 :: w2 :: w3 :: r) ++ rest = wlit w0 w1 w2 w3 r rest := rfl
/-- What is asked of words. -/
structure WOk (w0 w1 w2 w3 : Int) (r : List Int) (rest : List AV) : Prop where
  len : r.length = 12
  u0 : 0 ≤ w0 ∧ w0 < 18446744073709551616
  u1 : 0 ≤ w1 ∧ w1 < 18446744073709551616
  u2 : 0 ≤ w2 ∧ w2 < 18446744073709551616
  u3 : 0 ≤ w3 ∧ w3 < 18446744073709551616
  ur : ∀ x ∈ r, 0 ≤ x ∧ x < 18446744073709551616
  hf : hfL rest = true
theorem WOk.w10 {w0 w1 w2 w3 : Int} {r : List Int} {rest : List AV} (h : WOk w0 w1 w2 w3 r rest) : (w10 w2 w3 r).length = 10 ∧ ∀ x ∈ w10 w2 w3 r, 0 ≤ x ∧ x < 18446744073709551616 := by
  refine ⟨by simp [Go.Proofs.Ytncmflmjlocgiaa.w10, h.len], fun x hx => ?_⟩
  rcases List.mem_cons.1 hx with rfl | hx
  · exact h.u2
  rcases List.mem_cons.1 hx with rfl | hx
  · exact h.u3
  exact h.ur x (List.mem_of_mem_take hx)
theorem t8 {w0 w1 w2 w3 : Int} {r : List Int} {rest : List AV} (h : WOk w0 w1 w2 w3 r rest) : List.take 8 (encs u64A r ++ rest) = encs u64A (r.take 8) := by
  rw [List.take_append_of_le_length (by rw [lenU, h.len]; decide), encs_mapU, encs_mapU, List.map_take]
def TakeOk (f : FuncId) (w0 w1 w2 w3 : Int) (r : List Int) (rest : List AV) (u : Tk) (n n' : Ino) : Prop := ∀ (id : Nat) (H : Heap), H[id]? = some (.cells (inoC n nilm')) →
  ∃ H', (cbL tab).ic f [.ptr id 0, .sl 1 16 (wlit w0 w1 w2 w3 r rest) u] H = some (.ret (.tup []), H') ∧ H'[id]? = some (.cells (inoC n' (mapV n'.map))) ∧ H.length ≤ H'.length ∧ ∀ k, k ≠ id → k < H.length → H'[k]? = H[k]?
def TakeNo (f : FuncId) (w0 w1 w2 w3 : Int) (r : List Int) (rest : List AV) (u : Tk) (n : Ino) : Prop := ∀ (id : Nat) (H : Heap), H[id]? = some (.cells (inoC n nilm')) →
  ∃ H', (cbL tab).ic f [.ptr id 0, .sl 1 16 (wlit w0 w1 w2 w3 r rest) u] H = some (.pan [(.iface 26 (.int .i64 240), false)], H') ∧ H.length ≤ H'.length ∧ ∀ k, k ≠ id → k < H.length → H'[k]? = H[k]?
theorem take_none (f : FuncId) (hl : (cbL tab).lent f = false) (fi : AFun) (ht : tab f = some fi) (hmode : fi.mode = 1) (id : Nat) (v : AV) (H : Heap) : pcx (cbL tab) f [.ptr id 0, v] H = none :=
  pcx_none hl (pc_none ht (by simp [pcOn, hmode, lend, unown, hfL, AV.hf]))
theorem take0 (w0 w1 w2 w3 : Int) (r : List Int) (rest : List AV) (u : Tk) (n : Ino) (hn : n.map = []) : TakeOk 102 w0 w1 w2 w3 r rest u n n := by
  intro id H hid
  have : ∃ o H', (cbL tab).ic 102 [.ptr id 0, .sl 1 16 (wlit w0 w1 w2 w3 r rest) u] H = some (o, H') ∧ o = .ret (.tup []) ∧ H' = H := by
    refine ic_wp (fi := c102) rfl rfl (by simp [c102]) (by decide) ?_
    unfold c102
    simp (disch := omega) only [wk, avalE, aactE, evPE, boundE, asNat, bv_seql cellsEq_ii, bv_sneqd cellsEq_ii, readC, allOne, fillL, resE, tupled, ↓reduceIte, Nat.reduceEqDiff, Int.reduceEq, Int.reduceLT, Int.reduceLE, Nat.reduceAdd, Nat.reduceMul, Nat.reduceLT, Nat.reduceLeDiff, reduceCtorEq]
  obtain ⟨o, H', h, rfl, rfl⟩ := this
  refine ⟨_, h, ?_, Nat.le_refl _, fun _ _ _ => rfl⟩
  rw [hn]; exact hid
theorem take2_ok (w0 w1 w2 w3 : Int) (r : List Int) (rest : List AV) (u : Tk) (k l : Int) (hw : WOk w0 w1 w2 w3 r rest) (h : (1 ≤ w2 ∧ w2 ≤ 2047) ∧ (1 ≤ w3 ∧ w3 ≤ 256)) :
    TakeOk 116 w0 w1 w2 w3 r rest u ⟨k, l, 0, [], 0, 0, ⟨#[]⟩⟩ ⟨k, l, 0, [], w2, w3, ⟨#[]⟩⟩ := by
  intro id H hid
  have hlt : id < H.length := (List.getElem?_eq_some_iff.1 hid).1
  have : ∃ o H', (cbL tab).ic 116 [.ptr id 0, .sl 1 16 (wlit w0 w1 w2 w3 r rest) u] H = some (o, H') ∧ o = .ret (.tup []) ∧ H'[id]? = some (.cells (inoC ⟨k, l, 0, [], w2, w3, ⟨#[]⟩⟩ nilm')) ∧ H.length ≤ H'.length ∧ ∀ k, k ≠ id → k < H.length → H'[k]? = H[k]? := by
    refine ic_wp (fi := c116) rfl rfl (by simp [c116]) (by decide) ?_
    unfold c116 wlit
    unfold inoC nilm' at hid ⊢
    have i2 : (2 : Int).toNat = 2 := rfl
    have i3 : (3 : Int).toNat = 3 := rfl
    have p1 := fun H => inw_px w2 1 2047 H
    have p2 := fun H => inw_px w3 1 256 H
    have mt := fun H => must_t H
    rw [decide_eq_true h.1] at p1
    rw [decide_eq_true h.2] at p2
    have v1 : IntKind.i64.wrap w2 = w2 := wrap_i64 (by omega) (by omega)
    have v2 : IntKind.i64.wrap w3 = w3 := wrap_i64 (by omega) (by omega)
    have sg : ∀ A, (H.set id A)[id]? = some A := fun A => List.getElem?_set_self hlt
    simp (disch := omega) only [wk, avalE, aactE, evPE, boundE, asNat, bv_seql cellsEq_ii, bv_sneqd cellsEq_ii, readC, allOne, fillL, resE, tupled, ↓reduceIte, Nat.reduceEqDiff, Int.reduceEq, Int.reduceLT, Int.reduceLE, Nat.reduceAdd, Nat.reduceMul, Nat.reduceLT, Nat.reduceLeDiff, reduceCtorEq, i2, i3, p1, p2, mt, v1, v2, hid, fve, sg, List.set_set]
    exact ⟨by rw [List.length_set]; exact Nat.le_refl _, fun k hk _ => List.getElem?_set_ne (fun e => hk e.symm)⟩
  obtain ⟨o, H', h, rfl, h2⟩ := this
  exact ⟨H', h, h2⟩
theorem take2_no (w0 w1 w2 w3 : Int) (r : List Int) (rest : List AV) (u : Tk) (n : Ino) (hw : WOk w0 w1 w2 w3 r rest) (h : ¬ ((1 ≤ w2 ∧ w2 ≤ 2047) ∧ (1 ≤ w3 ∧ w3 ≤ 256))) :
    TakeNo 116 w0 w1 w2 w3 r rest u n := by
  intro id H hid
  have : ∃ o H', (cbL tab).ic 116 [.ptr id 0, .sl 1 16 (wlit w0 w1 w2 w3 r rest) u] H = some (o, H') ∧ o = .pan [(.iface 26 (.int .i64 240), false)] ∧ H' = H := by
    refine ic_wp (fi := c116) rfl rfl (by simp [c116]) (by decide) ?_
    unfold c116 wlit
    have i2 : (2 : Int).toNat = 2 := rfl
    have i3 : (3 : Int).toNat = 3 := rfl
    have p1 := fun H => inw_px w2 1 2047 H
    have p2 := fun H => inw_px w3 1 256 H
    have mf := fun H => must_f H
    by_cases h1 : 1 ≤ w2 ∧ w2 ≤ 2047
    · have h2 : ¬ (1 ≤ w3 ∧ w3 ≤ 256) := fun h2 => h ⟨h1, h2⟩
      rw [decide_eq_true h1] at p1
      rw [decide_eq_false h2] at p2
      clear h h1 h2
      simp (disch := omega) only [wk, avalE, aactE, evPE, boundE, asNat, bv_seql cellsEq_ii, bv_sneqd cellsEq_ii, readC, allOne, fillL, resE, tupled, ↓reduceIte, Nat.reduceEqDiff, Int.reduceEq, Int.reduceLT, Int.reduceLE, Nat.reduceAdd, Nat.reduceMul, Nat.reduceLT, Nat.reduceLeDiff, reduceCtorEq, i2, i3, p1, p2, mf]
    · rw [decide_eq_false h1] at p1
      clear h h1
      simp (disch := omega) only [wk, avalE, aactE, evPE, boundE, asNat, bv_seql cellsEq_ii, bv_sneqd cellsEq_ii, readC, allOne, fillL, resE, tupled, ↓reduceIte, Nat.reduceEqDiff, Int.reduceEq, Int.reduceLT, Int.reduceLE, Nat.reduceAdd, Nat.reduceMul, Nat.reduceLT, Nat.reduceLeDiff, reduceCtorEq, i2, i3, p1, mf]
  obtain ⟨o, H', h, rfl, rfl⟩ := this
  exact ⟨_, h, Nat.le_refl _, fun _ _ _ => rfl⟩
theorem take1_ok (w0 w1 w2 w3 : Int) (r : List Int) (rest : List AV) (u : Tk) (k l : Int) (hw : WOk w0 w1 w2 w3 r rest) (h1 : 0 ≤ w1 ∧ w1 ≤ 65536) (h2 : (ofM (readE (w10 w2 w3 r))).isSome = true ∧ wordsE (readE (w10 w2 w3 r)) = w10 w2 w3 r) :
    TakeOk 110 w0 w1 w2 w3 r rest u ⟨k, l, 0, [], 0, 0, ⟨#[]⟩⟩ ⟨k, l, w1, readE (w10 w2 w3 r), 0, 0, ⟨#[]⟩⟩ := by
  intro id H hid
  have hlt : id < H.length := (List.getElem?_eq_some_iff.1 hid).1
  have : ∃ o H', (cbL tab).ic 110 [.ptr id 0, .sl 1 16 (wlit w0 w1 w2 w3 r rest) u] H = some (o, H') ∧ o = .ret (.tup []) ∧ H'[id]? = some (.cells (inoC ⟨k, l, w1, readE (w10 w2 w3 r), 0, 0, ⟨#[]⟩⟩ (mapV (readE (w10 w2 w3 r))))) ∧ H.length ≤ H'.length ∧ ∀ k, k ≠ id → k < H.length → H'[k]? = H[k]? := by
    refine ic_wp (fi := c110) rfl rfl (by simp [c110]) (by decide) ?_
    unfold c110 wlit
    unfold inoC nilm' at hid
    unfold inoC
    have i1 : (1 : Int).toNat = 1 := rfl
    have i2 : (2 : Int).toNat = 2 := rfl
    have i12 : (12 : Int).toNat = 12 := rfl
    have p1 := fun H => inw_px w1 0 65536 H
    rw [decide_eq_true h1] at p1
    have mt := fun H => must_t H
    have xr := fun H => xread_px (w10 w2 w3 r) hw.w10.1 hw.w10.2 H
    have er : readR (w10 w2 w3 r) = (readE (w10 w2 w3 r), 0) := if_pos h2
    rw [er] at xr
    have ea : arrV (w10 w2 w3 r) = .agg (.int .u64 w2 :: .int .u64 w3 :: encs u64A (r.take 8)) := rfl
    rw [ea] at xr
    simp only [readV] at xr
    have tt := t8 hw
    have lr : (encs u64A r).length = 12 := by rw [lenU, hw.len]
    have v1 : IntKind.i64.wrap w1 = w1 := wrap_i64 (by omega) (by omega)
    have sg : ∀ A, (H.set id A)[id]? = some A := fun A => List.getElem?_set_self hlt
    have mv1 := (MapR.of (readE (w10 w2 w3 r))).one.1
    have mv2 := (MapR.of (readE (w10 w2 w3 r))).one.2
    unfold mapV at mv1 mv2 ⊢
    simp (disch := omega) only [wk, avalE, aactE, evPE, boundE, asNat, bv_seql cellsEq_ii, bv_sneqd cellsEq_ii, readC, allOne, fillL, resE, tupled, ↓reduceIte, Nat.reduceEqDiff, Int.reduceEq, Int.reduceLT, Int.reduceLE, Nat.reduceAdd, Nat.reduceMul, Nat.reduceLT, Nat.reduceLeDiff, reduceCtorEq, i1, i2, i12, p1, xr, mt, tt, lr, v1, hid, sg, List.set_set, mv1, mv2]
    exact ⟨by rw [List.length_set]; exact Nat.le_refl _, fun k hk _ => List.getElem?_set_ne (fun e => hk e.symm)⟩
  obtain ⟨o, H', h, rfl, h2⟩ := this
  exact ⟨H', h, h2⟩
theorem take1_no (w0 w1 w2 w3 : Int) (r : List Int) (rest : List AV) (u : Tk) (n : Ino) (hw : WOk w0 w1 w2 w3 r rest) (h : ¬ ((0 ≤ w1 ∧ w1 ≤ 65536) ∧ (ofM (readE (w10 w2 w3 r))).isSome = true ∧ wordsE (readE (w10 w2 w3 r)) = w10 w2 w3 r)) :
    TakeNo 110 w0 w1 w2 w3 r rest u n := by
  intro id H hid
  have : ∃ o H', (cbL tab).ic 110 [.ptr id 0, .sl 1 16 (wlit w0 w1 w2 w3 r rest) u] H = some (o, H') ∧ o = .pan [(.iface 26 (.int .i64 240), false)] ∧ H' = H := by
    refine ic_wp (fi := c110) rfl rfl (by simp [c110]) (by decide) ?_
    unfold c110 wlit
    have i1 : (1 : Int).toNat = 1 := rfl
    have i2 : (2 : Int).toNat = 2 := rfl
    have i12 : (12 : Int).toNat = 12 := rfl
    have p1 := fun H => inw_px w1 0 65536 H
    have mf := fun H => must_f H
    have xr := fun H => xread_px (w10 w2 w3 r) hw.w10.1 hw.w10.2 H
    have ea : arrV (w10 w2 w3 r) = .agg (.int .u64 w2 :: .int .u64 w3 :: encs u64A (r.take 8)) := rfl
    rw [ea] at xr
    have tt := t8 hw
    have lr : (encs u64A r).length = 12 := by rw [lenU, hw.len]
    by_cases h2 : (ofM (readE (w10 w2 w3 r))).isSome = true ∧ wordsE (readE (w10 w2 w3 r)) = w10 w2 w3 r
    · have er : readR (w10 w2 w3 r) = (readE (w10 w2 w3 r), 0) := if_pos h2
      have h1 : ¬ (0 ≤ w1 ∧ w1 ≤ 65536) := fun h1 => h ⟨h1, h2⟩
      rw [er] at xr
      rw [decide_eq_false h1] at p1
      simp only [readV] at xr
      clear h h1 h2
      simp (disch := omega) only [wk, avalE, aactE, evPE, boundE, asNat, bv_seql cellsEq_ii, bv_sneqd cellsEq_ii, readC, allOne, fillL, resE, tupled, ↓reduceIte, Nat.reduceEqDiff, Int.reduceEq, Int.reduceLT, Int.reduceLE, Nat.reduceAdd, Nat.reduceMul, Nat.reduceLT, Nat.reduceLeDiff, reduceCtorEq, i1, i2, i12, p1, xr, mf, tt, lr]
    · have er : readR (w10 w2 w3 r) = ([], 2) := if_neg h2
      rw [er] at xr
      simp only [readV] at xr
      clear h h2
      simp (disch := omega) only [wk, avalE, aactE, evPE, boundE, asNat, bv_seql cellsEq_ii, bv_sneqd cellsEq_ii, readC, allOne, fillL, resE, tupled, ↓reduceIte, Nat.reduceEqDiff, Int.reduceEq, Int.reduceLT, Int.reduceLE, Nat.reduceAdd, Nat.reduceMul, Nat.reduceLT, Nat.reduceLeDiff, reduceCtorEq, i1, i2, i12, xr, mf, tt, lr]
  obtain ⟨o, H', h, rfl, rfl⟩ := this
  exact ⟨_, h, Nat.le_refl _, fun _ _ _ => rfl⟩
theorem take3_no (w0 w1 w2 w3 : Int) (r : List Int) (rest : List AV) (u : Tk) (n : Ino) (hw : WOk w0 w1 w2 w3 r rest) (h : ¬ (1 ≤ w1 ∧ w1 ≤ 112)) :
    TakeNo 121 w0 w1 w2 w3 r rest u n := by
  intro id H hid
  have : ∃ o H', (cbL tab).ic 121 [.ptr id 0, .sl 1 16 (wlit w0 w1 w2 w3 r rest) u] H = some (o, H') ∧ o = .pan [(.iface 26 (.int .i64 240), false)] ∧ H' = H := by
    refine ic_wp (fi := c121) rfl rfl (by simp [c121]) (by decide) ?_
    unfold c121 wlit
    have i1 : (1 : Int).toNat = 1 := rfl
    have p1 := fun H => inw_px w1 1 112 H
    rw [decide_eq_false h] at p1
    have mf := fun H => must_f H
    clear h
    simp (disch := omega) only [wk, avalE, aactE, evPE, boundE, asNat, bv_seql cellsEq_ii, bv_sneqd cellsEq_ii, readC, allOne, fillL, resE, tupled, ↓reduceIte, Nat.reduceEqDiff, Int.reduceEq, Int.reduceLT, Int.reduceLE, Nat.reduceAdd, Nat.reduceMul, Nat.reduceLT, Nat.reduceLeDiff, reduceCtorEq, i1, p1, mf]
  obtain ⟨o, H', h, rfl, rfl⟩ := this
  exact ⟨_, h, Nat.le_refl _, fun _ _ _ => rfl⟩
theorem take3_ok (w0 w1 w2 w3 : Int) (r : List Int) (rest : List AV) (u : Tk) (k l : Int) (hw : WOk w0 w1 w2 w3 r rest) (h1 : 1 ≤ w1 ∧ w1 ≤ 112) :
    TakeOk 121 w0 w1 w2 w3 r rest u ⟨k, l, 0, [], 0, 0, ⟨#[]⟩⟩ ⟨k, l, 0, [], 0, 0, textI w1 w2 w3 r⟩ := by
  intro id H hid
  have hlt : id < H.length := (List.getElem?_eq_some_iff.1 hid).1
  have : ∃ o H', (cbL tab).ic 121 [.ptr id 0, .sl 1 16 (wlit w0 w1 w2 w3 r rest) u] H = some (o, H') ∧ o = .ret (.tup []) ∧ H'[id]? = some (.cells (inoC ⟨k, l, 0, [], 0, 0, textI w1 w2 w3 r⟩ nilm')) ∧ H.length ≤ H'.length ∧ ∀ k, k ≠ id → k < H.length → H'[k]? = H[k]? := by
    refine ic_wp (fi := c121) rfl rfl (by simp [c121]) (by decide) ?_
    unfold c121 wlit
    unfold inoC nilm' at hid ⊢
    have i1 : (1 : Int).toNat = 1 := rfl
    have i2 : (2 : Int).toNat = 2 := rfl
    have i14 : 16 - 2 = 14 := rfl
    have p1 := fun H => inw_px w1 1 112 H
    rw [decide_eq_true h1] at p1
    have mt := fun H => must_t H
    have bv := fun H => bytes_v (l := w2 :: w3 :: r) (rest := rest) (s := 1) (tk := .ro) (H := H) (lendK_sl ..) (by simp [hw.len]) rfl hw.hf (fun x hx => by
      rcases List.mem_cons.1 hx with rfl | hx
      · exact hw.u2
      rcases List.mem_cons.1 hx with rfl | hx
      · exact hw.u3
      exact hw.ur x hx) rfl
    have l14 : (w2 :: w3 :: r).length = 14 := by simp [hw.len]
    have eb : encs u64A (w2 :: w3 :: r) ++ rest = .int .u64 w2 :: .int .u64 w3 :: (encs u64A r ++ rest) := rfl
    rw [l14, eb] at bv
    have lB : (bytM (w2 :: w3 :: r)).length = 112 := by rw [bytM_len, l14]
    have lC : (encs byA (bytM (w2 :: w3 :: r))).length = 112 := by rw [encs_length (k := 1), lB]
    have nB : bytM (w2 :: w3 :: r) ≠ [] := by intro e; rw [e] at lB; cases lB
    have pB : prRow 1 byA (bytM (w2 :: w3 :: r)) = .fresh 1 112 (encs byA (bytM (w2 :: w3 :: r))) := by rw [prRow_ne nB, lB]
    have mle : w1.toNat ≤ 112 := by omega
    have m0 : 0 ≤ w1 := by omega
    have hsl : ∀ g, (if w1.toNat = 112 then AV.sl 1 112 (encs byA (bytM (w2 :: w3 :: r))) (.own g) else .sl 1 w1.toNat (encs byA (bytM (w2 :: w3 :: r))) .ro) = .sl 1 w1.toNat (encs byA (bytM (w2 :: w3 :: r))) (if w1.toNat = 112 then .own g else .ro) := by
      intro g
      split
      · rename_i h; rw [h]
      · rfl
    have lr : (encs u64A r).length = 12 := by rw [lenU, hw.len]
    have eT : ByteArray.mk (List.toArray ((bytM (w2 :: w3 :: r)).take w1.toNat)) = textI w1 w2 w3 r := rfl
    have up : ∀ A : AObj, (H ++ [A])[id]? = H[id]? := fun A => List.getElem?_append_left hlt
    simp (disch := omega) only [wk, avalE, aactE, evPE, boundE, asNat, bv_seql cellsEq_ii, bv_sneqd cellsEq_ii, readC, allOne, fillL, resE, tupled, ↓reduceIte, Nat.reduceEqDiff, Int.reduceEq, Int.reduceLT, Int.reduceLE, Nat.reduceAdd, Nat.reduceMul, Nat.reduceLT, Nat.reduceLeDiff, reduceCtorEq, i1, i2, i14, p1, bv, pB, mt, lr, lC, mle, m0, hsl, unb, eT, hid, up, true_or, Nat.le_add_left, Nat.le_add_right]
    exact ⟨List.getElem?_set_self (by simp; omega), by simp, fun k hk hk2 => by rw [List.getElem?_set_ne (fun e => hk e.symm), List.getElem?_append_left hk2]⟩
  obtain ⟨o, H', h, rfl, h2⟩ := this
  exact ⟨H', h, h2⟩
def takeF (k : Int) : FuncId := if k = 1 then 110 else if k = 2 then 116 else if k = 3 then 121 else 102
theorem takeF_none (k : Int) (id : Nat) (v : AV) (H : Heap) : pcx (cbL tab) (takeF k) [.ptr id 0, v] H = none := by
  unfold takeF
  split
  · exact take_none _ rfl c110 rfl rfl id v H
  split
  · exact take_none _ rfl c116 rfl rfl id v H
  split
  · exact take_none _ rfl c121 rfl rfl id v H
  · exact take_none _ rfl c102 rfl rfl id v H
theorem takeF_lent (k : Int) : (cbL tab).lent (takeF k) = false := by
  unfold takeF
  split
  · rfl
  split
  · rfl
  split <;> rfl
theorem kindA_take (k : Int) : ∃ f1 f2 f3, kindA k = .agg [.fn f1 [], .fn f2 [], .fn f3 [], .fn (takeF k) []] := by
  unfold kindA takeF
  by_cases h1 : k = 1
  · simp only [h1, if_true]; exact ⟨_, _, _, rfl⟩
  by_cases h2 : k = 2
  · simp only [h2, if_true, show ¬ (2 : Int) = 1 by decide, if_false]; exact ⟨_, _, _, rfl⟩
  by_cases h3 : k = 3
  · simp only [h3, if_true, show ¬ (3 : Int) = 1 by decide, show ¬ (3 : Int) = 2 by decide, if_false]; exact ⟨_, _, _, rfl⟩
  simp only [h1, h2, h3, if_false]; exact ⟨_, _, _, rfl⟩
theorem find_k {k : Int} (h0 : 0 ≤ k) (h3 : k ≤ 3) : ∃ i, findA 0 (.int .i64 k) kindsE 0 = some (some (i, kindA k)) := by
  have : k = 0 ∨ k = 1 ∨ k = 2 ∨ k = 3 := by omega
  rcases this with rfl | rfl | rfl | rfl
  · exact ⟨_, find0⟩
  · exact ⟨_, find1⟩
  · exact ⟨_, find2⟩
  · exact ⟨_, find3⟩
theorem take_all (w0 w1 w2 w3 : Int) (r : List Int) (rest : List AV) (u : Tk) (hw : WOk w0 w1 w2 w3 r rest) (hk : w0 % 256 ≤ 3) :
    TakeOk (takeF (w0 % 256)) w0 w1 w2 w3 r rest u ⟨w0 % 256, w0 / 256 % 16777216, 0, [], 0, 0, ⟨#[]⟩⟩ (decI w0 w1 w2 w3 r) ∨
    (TakeNo (takeF (w0 % 256)) w0 w1 w2 w3 r rest u ⟨w0 % 256, w0 / 256 % 16777216, 0, [], 0, 0, ⟨#[]⟩⟩ ∧ ¬ goodI w0 w1 w2 w3 r) := by
  have hcase : w0 % 256 = 0 ∨ w0 % 256 = 1 ∨ w0 % 256 = 2 ∨ w0 % 256 = 3 := by have := hw.u0; omega
  rcases hcase with h | h | h | h
  · left
    have e : decI w0 w1 w2 w3 r = ⟨0, w0 / 256 % 16777216, 0, [], 0, 0, ⟨#[]⟩⟩ := by simp [decI, h]
    rw [e, h]
    exact take0 w0 w1 w2 w3 r rest u _ rfl
  · have e : decI w0 w1 w2 w3 r = ⟨1, w0 / 256 % 16777216, w1, readE (w10 w2 w3 r), 0, 0, ⟨#[]⟩⟩ := by simp [decI, h]
    by_cases c : (0 ≤ w1 ∧ w1 ≤ 65536) ∧ (ofM (readE (w10 w2 w3 r))).isSome = true ∧ wordsE (readE (w10 w2 w3 r)) = w10 w2 w3 r
    · left
      rw [e, h]
      exact take1_ok w0 w1 w2 w3 r rest u _ _ hw c.1 c.2
    · right
      refine ⟨by rw [h]; exact take1_no w0 w1 w2 w3 r rest u _ hw c, fun hg => c ?_⟩
      obtain ⟨g1, g2⟩ := hg
      rw [e] at g1 g2
      obtain ⟨_, _, a, b, d⟩ := (okI_1 rfl).1 g1
      refine ⟨⟨a, b⟩, mapOk_some d, ?_⟩
      have hl := wordsE_len (isSome_right (mapOk_some d)).1
      have ht : tailI ⟨1, w0 / 256 % 16777216, w1, readE (w10 w2 w3 r), 0, 0, ⟨#[]⟩⟩ = w1 :: wordsE (readE (w10 w2 w3 r)) := rfl
      unfold wordsI at g2
      rw [ht] at g2
      simp only [List.cons_append, List.cons.injEq] at g2
      have g3 := congrArg (List.take 10) g2.2.2
      rw [List.take_append_of_le_length (by rw [hl]; exact Nat.le_refl _), List.take_of_length_le (by rw [hl]; exact Nat.le_refl _)] at g3
      exact g3
  · have e : decI w0 w1 w2 w3 r = ⟨2, w0 / 256 % 16777216, 0, [], w2, w3, ⟨#[]⟩⟩ := by simp [decI, h]
    by_cases c : (1 ≤ w2 ∧ w2 ≤ 2047) ∧ (1 ≤ w3 ∧ w3 ≤ 256)
    · left
      rw [e, h]
      exact take2_ok w0 w1 w2 w3 r rest u _ _ hw c
    · right
      refine ⟨by rw [h]; exact take2_no w0 w1 w2 w3 r rest u _ hw c, fun hg => c ?_⟩
      obtain ⟨g1, _⟩ := hg
      rw [e] at g1
      obtain ⟨_, _, a, b, d, f⟩ := (okI_2 rfl).1 g1
      exact ⟨⟨a, b⟩, ⟨d, f⟩⟩
  · have e : decI w0 w1 w2 w3 r = ⟨3, w0 / 256 % 16777216, 0, [], 0, 0, textI w1 w2 w3 r⟩ := by simp [decI, h]
    by_cases c : 1 ≤ w1 ∧ w1 ≤ 112
    · left
      rw [e, h]
      exact take3_ok w0 w1 w2 w3 r rest u _ _ hw c
    · right
      refine ⟨by rw [h]; exact take3_no w0 w1 w2 w3 r rest u _ hw c, fun hg => c ?_⟩
      obtain ⟨g1, g2⟩ := hg
      rw [e] at g1 g2
      obtain ⟨_, _, a, b, d⟩ := (okI_3 rfl).1 g1
      have ht : tailI ⟨3, w0 / 256 % 16777216, 0, [], 0, 0, textI w1 w2 w3 r⟩ = ((textI w1 w2 w3 r).size : Int) :: layM (textI w1 w2 w3 r).data.toList := rfl
      unfold wordsI at g2
      rw [ht] at g2
      simp only [List.cons_append, List.cons.injEq] at g2
      have g3 := g2.2.1
      simp only at a b
      omega
theorem clear66 (o : Nat) (x : List AV) (H : Heap) (hx : H[o]? = some (.cells x)) (hl : x.length = 7) : enterA (cbL tab) 66 [.ptr o 0] H = some (.ret (.tup []), H.set o (.cells (inoC zeroI nilm'))) := by
  have : ∃ q H', (cbL tab).ic 66 [.ptr o 0] H = some (q, H') ∧ q = .ret (.tup []) ∧ H' = H.set o (.cells (inoC zeroI nilm')) := by
    refine ic_wp (fi := c66) rfl rfl (by simp [c66]) (by decide) ?_
    unfold c66
    have d7 : List.drop 7 x = [] := List.drop_of_length_le (by omega)
    have z : inoC zeroI nilm' = [.int .i64 0, .int .i64 0, .int .i64 0, .sl 0 0 [] .z, .int .i64 0, .int .i64 0, .str ⟨#[]⟩] := rfl
    rw [z]
    simp (disch := omega) only [wk, avalE, aactE, evPE, boundE, asNat, bv_seql cellsEq_ii, bv_sneqd cellsEq_ii, readC, allOne, fillL, resE, tupled, ↓reduceIte, Nat.reduceEqDiff, Int.reduceEq, Int.reduceLT, Int.reduceLE, Nat.reduceAdd, Nat.reduceMul, Nat.reduceLT, Nat.reduceLeDiff, reduceCtorEq, hx, hl, d7, List.append_nil]
  obtain ⟨q, H', h, rfl, rfl⟩ := this
  exact enterA_ic rfl (pc_none (fi := c66) rfl rfl) h
def ofIV (n : Ino) (e : Int) : AV := .tup [inoA n (mapV n.map), .int .i64 e]
theorem purify_ofI (n : Ino) (e : Int) (H : Heap) : purify (some (.ret (.tup [inoA n (mapV n.map), .int .i64 e]), H)) = some (.plain (ofIV n e)) := by
  have hm := MapR.of n.map
  have hu : unown (inoA n (mapV n.map)) = inoA n (mapV n.map) := rfl
  have h : (unownT (.tup [inoA n (mapV n.map), .int .i64 e])).hf = true := by
    show ((inoA n (mapV n.map)).hf && _) = true
    rw [hf_inoA hm]; rfl
  show (if (unownT (.tup [inoA n (mapV n.map), .int .i64 e])).hf then some (PR.plain (unownT (.tup [inoA n (mapV n.map), .int .i64 e]))) else none) = _
  rw [if_pos h]; rfl
theorem xofI_no (w : List Int) (rest : List AV) (s : Nat) (tk : Tk) (H : Heap) (hn : w.length ≤ 1000) (h16 : w.length ≠ 16) (hr : hfL rest = true) :
    pcx (cbL tab) 33 [.sl s w.length (encs u64A w ++ rest) tk] H = some (.plain (ofIV zeroI 240)) := by
  obtain ⟨u1, e1, f1⟩ := lend_sl s w.length (encs u64A w ++ rest) tk
  refine pcx_N rfl (pc_wp (fi := c33) rfl ?_ (by simp [c33]) (by decide) ?_)
  · simp only [pcOn, List.map_cons, List.map_nil, hfL, hf_lend_sl, hf_lend_int, hf_lend_bool, hf_lend_str, hfL_append, Bool.and_self, Bool.and_true, Bool.true_and, c33, hf_u64A, hr]
  unfold c33
  rw [List.map_cons, List.map_nil, e1]
  have h16' : ¬ (w.length : Int) = 16 := by omega
  have mf := fun H => must_f H
  have pz := fun H => purify_ofI zeroI 240 H
  have ez : inoA zeroI (mapV zeroI.map) = .agg [.int .i64 0, .int .i64 0, .int .i64 0, .sl 0 0 [] .z, .int .i64 0, .int .i64 0, .str ⟨#[]⟩] := rfl
  have ec : inoC zeroI nilm' = [.int .i64 0, .int .i64 0, .int .i64 0, .sl 0 0 [] .z, .int .i64 0, .int .i64 0, .str ⟨#[]⟩] := rfl
  rw [ez] at pz
  simp (disch := omega) only [wk, avalE, aactE, evPE, boundE, asNat, bv_seql cellsEq_ii, bv_sneqd cellsEq_ii, readC, allOne, fillL, resE, tupled, ↓reduceIte, Nat.reduceEqDiff, Int.reduceEq, Int.reduceLT, Int.reduceLE, Nat.reduceAdd, Nat.reduceMul, Nat.reduceLT, Nat.reduceLeDiff, reduceCtorEq, h16', mf]
  rw [ends_left_pan (caught_pan 1 _ _ _ _ _ _ _ (clear66 0 _ _ rfl rfl) rfl), ec]
  simp (disch := omega) only [wk, avalE, aactE, evPE, boundE, asNat, bv_seql cellsEq_ii, bv_sneqd cellsEq_ii, readC, allOne, fillL, resE, tupled, ↓reduceIte, Nat.reduceEqDiff, Int.reduceEq, Int.reduceLT, Int.reduceLE, Nat.reduceAdd, Nat.reduceMul, Nat.reduceLT, Nat.reduceLeDiff, reduceCtorEq, pz]
def ofI (w0 w1 w2 w3 : Int) (r : List Int) : Ino × Int := if w0 = 0 then (zeroI, 0) else if goodI w0 w1 w2 w3 r then (decI w0 w1 w2 w3 r, 0) else (zeroI, 240)
theorem xofI_px (w0 w1 w2 w3 : Int) (r : List Int) (rest : List AV) (tk : Tk) (H : Heap) (hw : WOk w0 w1 w2 w3 r rest) :
    pcx (cbL tab) 33 [.sl 1 16 (wlit w0 w1 w2 w3 r rest) tk] H = some (.plain (ofIV (ofI w0 w1 w2 w3 r).1 (ofI w0 w1 w2 w3 r).2)) := by
  obtain ⟨u1, e1, f1⟩ := lend_sl 1 16 (wlit w0 w1 w2 w3 r rest) tk
  refine pcx_N rfl (pc_wp (fi := c33) rfl ?_ (by simp [c33]) (by decide) ?_)
  · rw [← wlit_eq]; simp only [pcOn, List.map_cons, List.map_nil, hfL, hf_lend_sl, hf_lend_int, hf_lend_bool, hf_lend_str, hfL_append, Bool.and_self, Bool.and_true, Bool.true_and, c33, hf_u64A, hw.hf]
  unfold c33
  rw [List.map_cons, List.map_nil, e1]
  have mt := fun H => must_t H
  have mf := fun H => must_f H
  have pz := fun e H => purify_ofI zeroI e H
  have ez : inoA zeroI (mapV zeroI.map) = .agg [.int .i64 0, .int .i64 0, .int .i64 0, .sl 0 0 [] .z, .int .i64 0, .int .i64 0, .str ⟨#[]⟩] := rfl
  have ec : inoC zeroI nilm' = [.int .i64 0, .int .i64 0, .int .i64 0, .sl 0 0 [] .z, .int .i64 0, .int .i64 0, .str ⟨#[]⟩] := rfl
  have i16 : ((16 : Nat) : Int) = 16 := rfl
  have i0 : (0 : Int).toNat = 0 := rfl
  have ro : ofI w0 w1 w2 w3 r = if w0 = 0 then (zeroI, 0) else if goodI w0 w1 w2 w3 r then (decI w0 w1 w2 w3 r, 0) else (zeroI, 240) := rfl
  rw [ez] at pz
  by_cases h0 : w0 = 0
  · rw [if_pos h0] at ro
    rw [ro]
    subst h0
    unfold wlit
    simp (disch := omega) only [wk, avalE, aactE, evPE, boundE, asNat, bv_seql cellsEq_ii, bv_sneqd cellsEq_ii, readC, allOne, fillL, resE, tupled, ↓reduceIte, Nat.reduceEqDiff, Int.reduceEq, Int.reduceLT, Int.reduceLE, Nat.reduceAdd, Nat.reduceMul, Nat.reduceLT, Nat.reduceLeDiff, reduceCtorEq, i16, i0, mt]
    rw [ends_left_ret (caught_ret _ _ _ _)]
    simp (disch := omega) only [wk, avalE, aactE, evPE, boundE, asNat, bv_seql cellsEq_ii, bv_sneqd cellsEq_ii, readC, allOne, fillL, resE, tupled, ↓reduceIte, Nat.reduceEqDiff, Int.reduceEq, Int.reduceLT, Int.reduceLE, Nat.reduceAdd, Nat.reduceMul, Nat.reduceLT, Nat.reduceLeDiff, reduceCtorEq, pz]
  rw [if_neg h0] at ro
  have fa := fun H => f08 w0 hw.u0.1 hw.u0.2 H
  have fb := fun H => f824 w0 hw.u0.1 hw.u0.2 H
  have v1 : IntKind.i64.wrap (w0 % 256) = w0 % 256 := wrap_i64 (by omega) (by omega)
  have v2 : IntKind.i64.wrap (w0 / 256 % 16777216) = w0 / 256 % 16777216 := wrap_i64 (by omega) (by omega)
  have kp := fun H => kinds_px H
  by_cases hk : w0 % 256 ≤ 3
  case neg =>
    have hg : ¬ goodI w0 w1 w2 w3 r := fun h => by have := okI_kind h.1; simp only [decI] at this; omega
    rw [if_neg hg] at ro
    rw [ro]
    have fd := find_no (k := w0 % 256) (by omega) (by omega) (by omega) (by omega)
    unfold wlit
    simp (disch := omega) only [wk, avalE, aactE, evPE, boundE, asNat, bv_seql cellsEq_ii, bv_sneqd cellsEq_ii, readC, allOne, fillL, resE, tupled, ↓reduceIte, Nat.reduceEqDiff, Int.reduceEq, Int.reduceLT, Int.reduceLE, Nat.reduceAdd, Nat.reduceMul, Nat.reduceLT, Nat.reduceLeDiff, reduceCtorEq, i16, i0, mt, h0, fa, fb, v1, v2, kp, List.getElem?_nil, fd, cellEq_ii, mf]
    rw [ends_left_pan (caught_pan 1 _ _ _ _ _ _ _ (clear66 0 _ _ rfl rfl) rfl), ec]
    simp (disch := omega) only [wk, avalE, aactE, evPE, boundE, asNat, bv_seql cellsEq_ii, bv_sneqd cellsEq_ii, readC, allOne, fillL, resE, tupled, ↓reduceIte, Nat.reduceEqDiff, Int.reduceEq, Int.reduceLT, Int.reduceLE, Nat.reduceAdd, Nat.reduceMul, Nat.reduceLT, Nat.reduceLeDiff, reduceCtorEq, pz]
  obtain ⟨q, fd⟩ := find_k (k := w0 % 256) (by omega) hk
  obtain ⟨f1', f2', f3', hka⟩ := kindA_take (w0 % 256)
  rw [hka] at fd
  have tn := fun v H => takeF_none (w0 % 256) 2 v H
  have tl := takeF_lent (w0 % 256)
  obtain ⟨Hd, hHd⟩ : ∃ Hd : Heap, Hd = [.cells [.int .i64 0, .int .i64 0, .int .i64 0, .sl 0 0 [] .z, .int .i64 0, .int .i64 0, .str ⟨#[]⟩], .cells [.int .i64 0], .cells (inoC ⟨w0 % 256, w0 / 256 % 16777216, 0, [], 0, 0, ⟨#[]⟩⟩ nilm'), .map kindsE, .cells [.fn f1' [], .fn f2' [], .fn f3' [], .fn (takeF (w0 % 256)) []]] := ⟨_, rfl⟩
  rcases take_all w0 w1 w2 w3 r rest u1 hw hk with ht | ⟨ht, hg⟩
  · obtain ⟨H2, p2, p3, p4, p5⟩ := ht 2 Hd (by rw [hHd]; rfl)
    have q0 : H2[0]? = some (.cells [.int .i64 0, .int .i64 0, .int .i64 0, .sl 0 0 [] .z, .int .i64 0, .int .i64 0, .str ⟨#[]⟩]) := by rw [p5 0 (by decide) (by rw [hHd]; simp), hHd]; rfl
    have q1 : H2[1]? = some (.cells [.int .i64 0]) := by rw [p5 1 (by decide) (by rw [hHd]; simp), hHd]; rfl
    have s0 : 0 < H2.length := (List.getElem?_eq_some_iff.1 q0).1
    have s1 : 1 < H2.length := (List.getElem?_eq_some_iff.1 q1).1
    have s2 : 2 < H2.length := (List.getElem?_eq_some_iff.1 p3).1
    have g0 : ∀ A B, ((H2.set 0 A).set 1 B)[0]? = some A := fun A B => by rw [List.getElem?_set_ne (by decide), List.getElem?_set_self s0]
    have g1 : ∀ A B, ((H2.set 0 A).set 1 B)[1]? = some B := fun A B => List.getElem?_set_self (by rw [List.length_set]; exact s1)
    have g2 : ∀ A, (H2.set 0 A)[1]? = some (.cells [.int .i64 0]) := fun A => by rw [List.getElem?_set_ne (by decide)]; exact q1
    rw [hHd] at p2
    have hml : (decI w0 w1 w2 w3 r).map.length ≤ 1000 := by
      simp only [decI]
      split
      · have := readE_len (w10 w2 w3 r)
        have := hw.w10.1
        omega
      · simp
    have wp := fun H => words_px (decI w0 w1 w2 w3 r) (mapV (decI w0 w1 w2 w3 r).map) (MapR.of _) hml H
    have mo1 := (MapR.of (decI w0 w1 w2 w3 r).map).one.1
    have mo2 := (MapR.of (decI w0 w1 w2 w3 r).map).one.2
    have pd := fun H => purify_ofI (decI w0 w1 w2 w3 r) 0 H
    simp only [inoA] at wp pd
    unfold wlit inoC nilm' at p2
    unfold inoC at p3
    unfold wlit
    by_cases ho : okI (decI w0 w1 w2 w3 r)
    case neg =>
      have hg : ¬ goodI w0 w1 w2 w3 r := fun h => ho h.1
      rw [if_neg hg] at ro
      rw [ro]
      rw [wordsV_no ho] at wp
      simp (disch := omega) only [wk, avalE, aactE, evPE, boundE, asNat, bv_seql cellsEq_ii, bv_sneqd cellsEq_ii, readC, allOne, fillL, resE, tupled, ↓reduceIte, Nat.reduceEqDiff, Int.reduceEq, Int.reduceLT, Int.reduceLE, Nat.reduceAdd, Nat.reduceMul, Nat.reduceLT, Nat.reduceLeDiff, reduceCtorEq, i16, i0, mt, h0, fa, fb, v1, v2, kp, List.getElem?_nil, fd, cellEq_ii, tn, runE_none tl, p2, p3, wp, mf]
      rw [ends_left_pan (caught_pan 1 _ _ _ _ _ _ _ (clear66 0 _ _ q0 rfl) (by rw [List.getElem?_set_ne (by decide)]; exact q1)), ec]
      simp (disch := omega) only [wk, avalE, aactE, evPE, boundE, asNat, bv_seql cellsEq_ii, bv_sneqd cellsEq_ii, readC, allOne, fillL, resE, tupled, ↓reduceIte, Nat.reduceEqDiff, Int.reduceEq, Int.reduceLT, Int.reduceLE, Nat.reduceAdd, Nat.reduceMul, Nat.reduceLT, Nat.reduceLeDiff, reduceCtorEq, g0, g1, pz]
    rw [wordsV_ok ho] at wp
    have wl := wordsI_len ho
    have hr12 := hw.len
    have eq := fun H => equal_v (a := wordsI (decI w0 w1 w2 w3 r)) (b := w0 :: w1 :: w2 :: w3 :: r) (r1 := []) (r2 := rest) (H := H) (lendK_sl H 4 1 _ _ .ro) (lendK_sl H 4 1 _ _ u1) (by omega) (by simp [hr12]) (fun _ => rfl) (fun _ => rfl) rfl hw.hf rfl f1
    have l16 : (w0 :: w1 :: w2 :: w3 :: r).length = 16 := by simp [hr12]
    rw [wl, l16, wlit_eq, List.append_nil] at eq
    unfold wlit at eq
    by_cases he : wordsI (decI w0 w1 w2 w3 r) = w0 :: w1 :: w2 :: w3 :: r
    case neg =>
      have hg : ¬ goodI w0 w1 w2 w3 r := fun h => he h.2
      rw [if_neg hg] at ro
      rw [ro]
      rw [decide_eq_false he] at eq
      simp (disch := omega) only [wk, avalE, aactE, evPE, boundE, asNat, bv_seql cellsEq_ii, bv_sneqd cellsEq_ii, readC, allOne, fillL, resE, tupled, ↓reduceIte, Nat.reduceEqDiff, Int.reduceEq, Int.reduceLT, Int.reduceLE, Nat.reduceAdd, Nat.reduceMul, Nat.reduceLT, Nat.reduceLeDiff, reduceCtorEq, i16, i0, mt, h0, fa, fb, v1, v2, kp, List.getElem?_nil, fd, cellEq_ii, tn, runE_none tl, p2, p3, wp, eq, mf]
      rw [ends_left_pan (caught_pan 1 _ _ _ _ _ _ _ (clear66 0 _ _ q0 rfl) (by rw [List.getElem?_set_ne (by decide)]; exact q1)), ec]
      simp (disch := omega) only [wk, avalE, aactE, evPE, boundE, asNat, bv_seql cellsEq_ii, bv_sneqd cellsEq_ii, readC, allOne, fillL, resE, tupled, ↓reduceIte, Nat.reduceEqDiff, Int.reduceEq, Int.reduceLT, Int.reduceLE, Nat.reduceAdd, Nat.reduceMul, Nat.reduceLT, Nat.reduceLeDiff, reduceCtorEq, g0, g1, pz]
    have hg : goodI w0 w1 w2 w3 r := ⟨ho, he⟩
    rw [if_pos hg] at ro
    rw [ro]
    rw [decide_eq_true he] at eq
    simp (disch := omega) only [wk, avalE, aactE, evPE, boundE, asNat, bv_seql cellsEq_ii, bv_sneqd cellsEq_ii, readC, allOne, fillL, resE, tupled, ↓reduceIte, Nat.reduceEqDiff, Int.reduceEq, Int.reduceLT, Int.reduceLE, Nat.reduceAdd, Nat.reduceMul, Nat.reduceLT, Nat.reduceLeDiff, reduceCtorEq, i16, i0, mt, h0, fa, fb, v1, v2, kp, List.getElem?_nil, fd, cellEq_ii, tn, runE_none tl, p2, p3, wp, eq, mo1, mo2, q0, q1, g2, List.append_nil]
    rw [ends_left_ret (caught_ret _ _ _ _)]
    simp (disch := omega) only [wk, avalE, aactE, evPE, boundE, asNat, bv_seql cellsEq_ii, bv_sneqd cellsEq_ii, readC, allOne, fillL, resE, tupled, ↓reduceIte, Nat.reduceEqDiff, Int.reduceEq, Int.reduceLT, Int.reduceLE, Nat.reduceAdd, Nat.reduceMul, Nat.reduceLT, Nat.reduceLeDiff, reduceCtorEq, g0, g1, pd]
  · rw [if_neg hg] at ro
    rw [ro]
    obtain ⟨H2, p2, p4, p5⟩ := ht 2 Hd (by rw [hHd]; rfl)
    have q0 : H2[0]? = some (.cells [.int .i64 0, .int .i64 0, .int .i64 0, .sl 0 0 [] .z, .int .i64 0, .int .i64 0, .str ⟨#[]⟩]) := by rw [p5 0 (by decide) (by rw [hHd]; simp), hHd]; rfl
    have q1 : H2[1]? = some (.cells [.int .i64 0]) := by rw [p5 1 (by decide) (by rw [hHd]; simp), hHd]; rfl
    rw [hHd] at p2
    unfold wlit inoC nilm' at p2
    unfold wlit
    simp (disch := omega) only [wk, avalE, aactE, evPE, boundE, asNat, bv_seql cellsEq_ii, bv_sneqd cellsEq_ii, readC, allOne, fillL, resE, tupled, ↓reduceIte, Nat.reduceEqDiff, Int.reduceEq, Int.reduceLT, Int.reduceLE, Nat.reduceAdd, Nat.reduceMul, Nat.reduceLT, Nat.reduceLeDiff, reduceCtorEq, i16, i0, mt, h0, fa, fb, v1, v2, kp, List.getElem?_nil, fd, cellEq_ii, tn, runE_none tl, p2]
    rw [ends_left_pan (caught_pan 1 _ _ _ _ _ _ _ (clear66 0 _ _ q0 rfl) (by rw [List.getElem?_set_ne (by decide)]; exact q1)), ec]
    have s0 : 0 < H2.length := (List.getElem?_eq_some_iff.1 q0).1
    have s1 : 1 < H2.length := (List.getElem?_eq_some_iff.1 q1).1
    have g0 : ∀ A B, ((H2.set 0 A).set 1 B)[0]? = some A := fun A B => by rw [List.getElem?_set_ne (by decide), List.getElem?_set_self s0]
    have g1 : ∀ A B, ((H2.set 0 A).set 1 B)[1]? = some B := fun A B => List.getElem?_set_self (by rw [List.length_set]; exact s1)
    simp (disch := omega) only [wk, avalE, aactE, evPE, boundE, asNat, bv_seql cellsEq_ii, bv_sneqd cellsEq_ii, readC, allOne, fillL, resE, tupled, ↓reduceIte, Nat.reduceEqDiff, Int.reduceEq, Int.reduceLT, Int.reduceLE, Nat.reduceAdd, Nat.reduceMul, Nat.reduceLT, Nat.reduceLeDiff, reduceCtorEq, g0, g1, pz]
end Go.Proofs.Ytncmflmjlocgiaa
