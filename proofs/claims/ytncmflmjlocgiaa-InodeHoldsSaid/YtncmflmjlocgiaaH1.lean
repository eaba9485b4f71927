/- THE WALKS OF WHAT TAKES AN INODE FROM WORDS THAT MAY BE WRITTEN. No condition but those stated. -/
import Derived.Test.YtncmflmjlocgiaaN11
set_option linter.unusedSimpArgs false
set_option linter.unusedVariables false
set_option linter.unusedSectionVars false
namespace Go.Proofs.Ytncmflmjlocgiaa
open Go Go.Am Go.Rec Go.Ino
set_option maxHeartbeats 4000000
set_option maxRecDepth 10000
theorem lendU (H : Heap) (k : Nat) (w : List Int) : (encs u64A w).map (lendK H k) = encs u64A w := by
  induction w with
  | nil => rfl
  | cons x r ih => rw [encs_cons, List.map_append, ih, u64A, List.map_cons, List.map_nil, lendK_int]
theorem lend_msl {H : Heap} {id off : Nat} {w l rest : List Int} (h : H[id]? = some (.cells (encs u64A w))) (hl : w.drop off = l ++ rest) (ho : off ≤ w.length) : lendK H 4 (.msl 1 id off l.length) = .sl 1 l.length (encs u64A l ++ []) .ro := by
  have hw : (w.drop off).length = l.length + rest.length := by rw [hl, List.length_append]
  rw [List.length_drop] at hw
  have e : ((encs u64A w).drop off).take l.length = encs u64A l := by
    have d := encs_drop (f := u64A) w off
    rw [Nat.mul_one] at d
    rw [d, hl, encs_append, List.take_append_of_le_length (by rw [lenU]; exact Nat.le_refl _), List.take_of_length_le (by rw [lenU]; exact Nat.le_refl _)]
  show (match H[id]? with
      | some (AObj.cells cs) => if off + l.length * 1 ≤ cs.length then AV.sl 1 l.length (((cs.drop off).take (l.length * 1)).map (lendK H 3)) .ro else AV.msl 1 id off l.length
      | _ => AV.msl 1 id off l.length) = _
  rw [h]
  simp only
  rw [if_pos (by rw [lenU]; omega), Nat.mul_one, e, lendU, List.append_nil]
def wcel (w0 w1 w2 w3 : Int) (r : List Int) : List AV := .int .u64 w0 :: .int .u64 w1 :: .int .u64 w2 :: .int .u64 w3 :: encs u64A r
theorem wcel_eq (w0 w1 w2 w3 : Int) (r : List Int) : wcel w0 w1 w2 w3 r = encs u64A (w0 :: w1 :: w2 :: w3 :: r) := rfl
def TakeM (f : FuncId) (w0 w1 w2 w3 : Int) (r : List Int) (n n' : Ino) : Prop := ∀ (id wid : Nat) (H : Heap), id ≠ wid → H[id]? = some (.cells (inoC n nilm')) → H[wid]? = some (.cells (wcel w0 w1 w2 w3 r)) →
  ∃ H', (cbL tab).ic f [.ptr id 0, .msl 1 wid 0 16] H = some (.ret (.tup []), H') ∧ H'[id]? = some (.cells (inoC n' (mapV n'.map))) ∧ H.length ≤ H'.length ∧ ∀ k, k ≠ id → k < H.length → H'[k]? = H[k]?
theorem takeM_none (f : FuncId) (hl : (cbL tab).lent f = false) (fi : AFun) (ht : tab f = some fi) (hmode : fi.mode = 1) (id wid : Nat) (H : Heap) : pcx (cbL tab) f [.ptr id 0, .msl 1 wid 0 16] H = none :=
  pcx_none hl (pc_none ht (by simp [pcOn, hmode, lend, unown, hfL, AV.hf]))
theorem takeM0 (w0 w1 w2 w3 : Int) (r : List Int) (n : Ino) (hn : n.map = []) : TakeM 102 w0 w1 w2 w3 r n n := by
  intro id wid H hne hid hwd
  have : ∃ o H', (cbL tab).ic 102 [.ptr id 0, .msl 1 wid 0 16] H = some (o, H') ∧ o = .ret (.tup []) ∧ H' = H := by
    refine ic_wp (fi := c102) rfl rfl (by simp [c102]) (by decide) ?_
    unfold c102
    simp (disch := omega) only [wk, avalE, aactE, evPE, boundE, asNat, bv_seql cellsEq_ii, bv_sneqd cellsEq_ii, readC, allOne, fillL, resE, tupled, ↓reduceIte, Nat.reduceEqDiff, Int.reduceEq, Int.reduceLT, Int.reduceLE, Nat.reduceAdd, Nat.reduceMul, Nat.reduceLT, Nat.reduceLeDiff, reduceCtorEq]
  obtain ⟨o, H', h, rfl, rfl⟩ := this
  refine ⟨_, h, ?_, Nat.le_refl _, fun _ _ _ => rfl⟩
  rw [hn]; exact hid
theorem takeM2 (w0 w1 w2 w3 : Int) (r : List Int) (k l : Int) (hw : WOk w0 w1 w2 w3 r []) (h : (1 ≤ w2 ∧ w2 ≤ 2047) ∧ (1 ≤ w3 ∧ w3 ≤ 256)) :
    TakeM 116 w0 w1 w2 w3 r ⟨k, l, 0, [], 0, 0, ⟨#[]⟩⟩ ⟨k, l, 0, [], w2, w3, ⟨#[]⟩⟩ := by
  intro id wid H hne hid hwd
  have hlt : id < H.length := (List.getElem?_eq_some_iff.1 hid).1
  have : ∃ o H', (cbL tab).ic 116 [.ptr id 0, .msl 1 wid 0 16] H = some (o, H') ∧ o = .ret (.tup []) ∧ H'[id]? = some (.cells (inoC ⟨k, l, 0, [], w2, w3, ⟨#[]⟩⟩ nilm')) ∧ H.length ≤ H'.length ∧ ∀ k, k ≠ id → k < H.length → H'[k]? = H[k]? := by
    refine ic_wp (fi := c116) rfl rfl (by simp [c116]) (by decide) ?_
    unfold c116
    unfold inoC nilm' at hid ⊢
    unfold wcel at hwd
    have i2 : (2 : Int).toNat = 2 := rfl
    have i3 : (3 : Int).toNat = 3 := rfl
    have p1 := fun H => inw_px w2 1 2047 H
    have p2 := fun H => inw_px w3 1 256 H
    have mt := fun H => must_t H
    rw [decide_eq_true h.1] at p1
    rw [decide_eq_true h.2] at p2
    have v1 : IntKind.i64.wrap w2 = w2 := wrap_i64 (by omega) (by omega)
    have v2 : IntKind.i64.wrap w3 = w3 := wrap_i64 (by omega) (by omega)
    have sg : ∀ A, (H.set id A)[id]? = some A := fun A => List.getElem?_set_self hlt
    simp (disch := omega) only [wk, avalE, aactE, evPE, boundE, asNat, bv_seql cellsEq_ii, bv_sneqd cellsEq_ii, readC, allOne, fillL, resE, tupled, ↓reduceIte, Nat.reduceEqDiff, Int.reduceEq, Int.reduceLT, Int.reduceLE, Nat.reduceAdd, Nat.reduceMul, Nat.reduceLT, Nat.reduceLeDiff, reduceCtorEq, i2, i3, p1, p2, mt, v1, v2, hid, hwd, fve, sg, List.set_set]
    exact ⟨by rw [List.length_set]; exact Nat.le_refl _, fun k hk _ => List.getElem?_set_ne (fun e => hk e.symm)⟩
  obtain ⟨o, H', h, rfl, h2⟩ := this
  exact ⟨H', h, h2⟩
theorem takeM1 (w0 w1 w2 w3 : Int) (r : List Int) (k l : Int) (hw : WOk w0 w1 w2 w3 r []) (h1 : 0 ≤ w1 ∧ w1 ≤ 65536) (h2 : (ofM (readE (w10 w2 w3 r))).isSome = true ∧ wordsE (readE (w10 w2 w3 r)) = w10 w2 w3 r) :
    TakeM 110 w0 w1 w2 w3 r ⟨k, l, 0, [], 0, 0, ⟨#[]⟩⟩ ⟨k, l, w1, readE (w10 w2 w3 r), 0, 0, ⟨#[]⟩⟩ := by
  intro id wid H hne hid hwd
  have hlt : id < H.length := (List.getElem?_eq_some_iff.1 hid).1
  have : ∃ o H', (cbL tab).ic 110 [.ptr id 0, .msl 1 wid 0 16] H = some (o, H') ∧ o = .ret (.tup []) ∧ H'[id]? = some (.cells (inoC ⟨k, l, w1, readE (w10 w2 w3 r), 0, 0, ⟨#[]⟩⟩ (mapV (readE (w10 w2 w3 r))))) ∧ H.length ≤ H'.length ∧ ∀ k, k ≠ id → k < H.length → H'[k]? = H[k]? := by
    refine ic_wp (fi := c110) rfl rfl (by simp [c110]) (by decide) ?_
    unfold c110
    unfold inoC nilm' at hid
    unfold inoC
    unfold wcel at hwd
    have i1 : (1 : Int).toNat = 1 := rfl
    have i2 : (2 : Int).toNat = 2 := rfl
    have i12 : (12 : Int).toNat = 12 := rfl
    have p1 := fun H => inw_px w1 0 65536 H
    rw [decide_eq_true h1] at p1
    have mt := fun H => must_t H
    have xr := fun H => xread_px (w10 w2 w3 r) hw.w10.1 hw.w10.2 H
    have er : readR (w10 w2 w3 r) = (readE (w10 w2 w3 r), 0) := if_pos h2
    rw [er] at xr
    have ea : arrV (w10 w2 w3 r) = .agg (.int .u64 w2 :: .int .u64 w3 :: encs u64A (r.take 8)) := rfl
    rw [ea] at xr
    simp only [readV] at xr
    have tt := t8 hw
    rw [List.append_nil] at tt
    have lr : (encs u64A r).length = 12 := by rw [lenU, hw.len]
    have v1 : IntKind.i64.wrap w1 = w1 := wrap_i64 (by omega) (by omega)
    have sg : ∀ A, (H.set id A)[id]? = some A := fun A => List.getElem?_set_self hlt
    have mv1 := (MapR.of (readE (w10 w2 w3 r))).one.1
    have mv2 := (MapR.of (readE (w10 w2 w3 r))).one.2
    unfold mapV at mv1 mv2 ⊢
    simp (disch := omega) only [wk, avalE, aactE, evPE, boundE, asNat, bv_seql cellsEq_ii, bv_sneqd cellsEq_ii, readC, allOne, fillL, resE, tupled, ↓reduceIte, Nat.reduceEqDiff, Int.reduceEq, Int.reduceLT, Int.reduceLE, Nat.reduceAdd, Nat.reduceMul, Nat.reduceLT, Nat.reduceLeDiff, reduceCtorEq, i1, i2, i12, p1, xr, mt, tt, lr, v1, hid, hwd, sg, List.set_set, mv1, mv2]
    exact ⟨by rw [List.length_set]; exact Nat.le_refl _, fun k hk _ => List.getElem?_set_ne (fun e => hk e.symm)⟩
  obtain ⟨o, H', h, rfl, h2⟩ := this
  exact ⟨H', h, h2⟩
theorem takeM3 (w0 w1 w2 w3 : Int) (r : List Int) (k l : Int) (hw : WOk w0 w1 w2 w3 r []) (h1 : 1 ≤ w1 ∧ w1 ≤ 112) :
    TakeM 121 w0 w1 w2 w3 r ⟨k, l, 0, [], 0, 0, ⟨#[]⟩⟩ ⟨k, l, 0, [], 0, 0, textI w1 w2 w3 r⟩ := by
  intro id wid H hne hid hwd
  have hlt : id < H.length := (List.getElem?_eq_some_iff.1 hid).1
  have : ∃ o H', (cbL tab).ic 121 [.ptr id 0, .msl 1 wid 0 16] H = some (o, H') ∧ o = .ret (.tup []) ∧ H'[id]? = some (.cells (inoC ⟨k, l, 0, [], 0, 0, textI w1 w2 w3 r⟩ nilm')) ∧ H.length ≤ H'.length ∧ ∀ k, k ≠ id → k < H.length → H'[k]? = H[k]? := by
    refine ic_wp (fi := c121) rfl rfl (by simp [c121]) (by decide) ?_
    unfold c121
    unfold inoC nilm' at hid ⊢
    unfold wcel at hwd
    have i1 : (1 : Int).toNat = 1 := rfl
    have i2 : (2 : Int).toNat = 2 := rfl
    have i14 : 16 - 2 = 14 := rfl
    have p1 := fun H => inw_px w1 1 112 H
    rw [decide_eq_true h1] at p1
    have mt := fun H => must_t H
    have l14 : (w2 :: w3 :: r).length = 14 := by simp [hw.len]
    have lm := lend_msl (w := w0 :: w1 :: w2 :: w3 :: r) (l := w2 :: w3 :: r) (rest := []) (off := 2) hwd (by simp) (by simp)
    have bv := bytes_v lm (by simp [hw.len]) rfl rfl (fun x hx => by
      rcases List.mem_cons.1 hx with rfl | hx
      · exact hw.u2
      rcases List.mem_cons.1 hx with rfl | hx
      · exact hw.u3
      exact hw.ur x hx) rfl
    rw [l14] at bv
    have lB : (bytM (w2 :: w3 :: r)).length = 112 := by rw [bytM_len, l14]
    have lC : (encs byA (bytM (w2 :: w3 :: r))).length = 112 := by rw [encs_length (k := 1), lB]
    have nB : bytM (w2 :: w3 :: r) ≠ [] := by intro e; rw [e] at lB; cases lB
    have pB : prRow 1 byA (bytM (w2 :: w3 :: r)) = .fresh 1 112 (encs byA (bytM (w2 :: w3 :: r))) := by rw [prRow_ne nB, lB]
    have mle : w1.toNat ≤ 112 := by omega
    have m0 : 0 ≤ w1 := by omega
    have hsl : ∀ g, (if w1.toNat = 112 then AV.sl 1 112 (encs byA (bytM (w2 :: w3 :: r))) (.own g) else .sl 1 w1.toNat (encs byA (bytM (w2 :: w3 :: r))) .ro) = .sl 1 w1.toNat (encs byA (bytM (w2 :: w3 :: r))) (if w1.toNat = 112 then .own g else .ro) := by
      intro g
      split
      · rename_i h; rw [h]
      · rfl
    have lr : (encs u64A r).length = 12 := by rw [lenU, hw.len]
    have eT : ByteArray.mk (List.toArray ((bytM (w2 :: w3 :: r)).take w1.toNat)) = textI w1 w2 w3 r := rfl
    have up : ∀ A : AObj, (H ++ [A])[id]? = H[id]? := fun A => List.getElem?_append_left hlt
    simp (disch := omega) only [wk, avalE, aactE, evPE, boundE, asNat, bv_seql cellsEq_ii, bv_sneqd cellsEq_ii, readC, allOne, fillL, resE, tupled, ↓reduceIte, Nat.reduceEqDiff, Int.reduceEq, Int.reduceLT, Int.reduceLE, Nat.reduceAdd, Nat.reduceMul, Nat.reduceLT, Nat.reduceLeDiff, reduceCtorEq, i1, i2, i14, p1, bv, pB, mt, lr, lC, mle, m0, hsl, unb, eT, hid, hwd, up, true_or, Nat.le_add_left, Nat.le_add_right]
    exact ⟨List.getElem?_set_self (by simp; omega), by simp, fun k hk hk2 => by rw [List.getElem?_set_ne (fun e => hk e.symm), List.getElem?_append_left hk2]⟩
  obtain ⟨o, H', h, rfl, h2⟩ := this
  exact ⟨H', h, h2⟩
theorem takeFM_none (k : Int) (id wid : Nat) (H : Heap) : pcx (cbL tab) (takeF k) [.ptr id 0, .msl 1 wid 0 16] H = none := by
  unfold takeF
  split
  · exact takeM_none _ rfl c110 rfl rfl id wid H
  split
  · exact takeM_none _ rfl c116 rfl rfl id wid H
  split
  · exact takeM_none _ rfl c121 rfl rfl id wid H
  · exact takeM_none _ rfl c102 rfl rfl id wid H
theorem takeM_all (w0 w1 w2 w3 : Int) (r : List Int) (hw : WOk w0 w1 w2 w3 r []) (hg : goodI w0 w1 w2 w3 r) :
    TakeM (takeF (w0 % 256)) w0 w1 w2 w3 r ⟨w0 % 256, w0 / 256 % 16777216, 0, [], 0, 0, ⟨#[]⟩⟩ (decI w0 w1 w2 w3 r) := by
  have hk : w0 % 256 ≤ 3 := by have := okI_kind hg.1; simp only [decI] at this; omega
  have hcase : w0 % 256 = 0 ∨ w0 % 256 = 1 ∨ w0 % 256 = 2 ∨ w0 % 256 = 3 := by have := hw.u0; omega
  obtain ⟨g1, g2⟩ := hg
  rcases hcase with h | h | h | h
  · have e : decI w0 w1 w2 w3 r = ⟨0, w0 / 256 % 16777216, 0, [], 0, 0, ⟨#[]⟩⟩ := by simp [decI, h]
    rw [e, h]
    exact takeM0 w0 w1 w2 w3 r _ rfl
  · have e : decI w0 w1 w2 w3 r = ⟨1, w0 / 256 % 16777216, w1, readE (w10 w2 w3 r), 0, 0, ⟨#[]⟩⟩ := by simp [decI, h]
    rw [e] at g1 g2
    rw [e, h]
    obtain ⟨_, _, a, b, d⟩ := (okI_1 rfl).1 g1
    refine takeM1 w0 w1 w2 w3 r _ _ hw ⟨a, b⟩ ⟨mapOk_some d, ?_⟩
    have hl := wordsE_len (isSome_right (mapOk_some d)).1
    have ht : tailI ⟨1, w0 / 256 % 16777216, w1, readE (w10 w2 w3 r), 0, 0, ⟨#[]⟩⟩ = w1 :: wordsE (readE (w10 w2 w3 r)) := rfl
    unfold wordsI at g2
    rw [ht] at g2
    simp only [List.cons_append, List.cons.injEq] at g2
    have g3 := congrArg (List.take 10) g2.2.2
    rw [List.take_append_of_le_length (by rw [hl]; exact Nat.le_refl _), List.take_of_length_le (by rw [hl]; exact Nat.le_refl _)] at g3
    exact g3
  · have e : decI w0 w1 w2 w3 r = ⟨2, w0 / 256 % 16777216, 0, [], w2, w3, ⟨#[]⟩⟩ := by simp [decI, h]
    rw [e] at g1
    rw [e, h]
    obtain ⟨_, _, a, b, d, f⟩ := (okI_2 rfl).1 g1
    exact takeM2 w0 w1 w2 w3 r _ _ hw ⟨⟨a, b⟩, ⟨d, f⟩⟩
  · have e : decI w0 w1 w2 w3 r = ⟨3, w0 / 256 % 16777216, 0, [], 0, 0, textI w1 w2 w3 r⟩ := by simp [decI, h]
    rw [e] at g1 g2
    rw [e, h]
    obtain ⟨_, _, a, b, d⟩ := (okI_3 rfl).1 g1
    have ht : tailI ⟨3, w0 / 256 % 16777216, 0, [], 0, 0, textI w1 w2 w3 r⟩ = ((textI w1 w2 w3 r).size : Int) :: layM (textI w1 w2 w3 r).data.toList := rfl
    unfold wordsI at g2
    rw [ht] at g2
    simp only [List.cons_append, List.cons.injEq] at g2
    have g3 := g2.2.1
    simp only at a b
    exact takeM3 w0 w1 w2 w3 r _ _ hw (by omega)
theorem ofM_none (wid : Nat) (H : Heap) : pcx (cbL tab) 33 [.msl 1 wid 0 16] H = none :=
  pcx_none rfl (pc_none (fi := c33) rfl rfl)
theorem lof : (cbL tab).lent 33 = false := rfl
theorem ofM_ic (w0 w1 w2 w3 : Int) (r : List Int) (hw : WOk w0 w1 w2 w3 r []) (hgo : w0 = 0 ∨ goodI w0 w1 w2 w3 r) (wid : Nat) (H : Heap) (hwd : H[wid]? = some (.cells (wcel w0 w1 w2 w3 r))) :
    ∃ H', (cbL tab).ic 33 [.msl 1 wid 0 16] H = some (.ret (ofIV (ofI w0 w1 w2 w3 r).1 0), H') ∧ H.length ≤ H'.length ∧ ∀ k, k < H.length → H'[k]? = H[k]? := by
  have key : ∃ o H', (cbL tab).ic 33 [.msl 1 wid 0 16] H = some (o, H') ∧ o = .ret (ofIV (ofI w0 w1 w2 w3 r).1 0) ∧ H.length ≤ H'.length ∧ ∀ k, k < H.length → H'[k]? = H[k]? := by
    refine ic_wp (fi := c33) rfl rfl (by simp [c33]) (by decide) ?_
    unfold c33
    have mt := fun H => must_t H
    have hlt : wid < H.length := (List.getElem?_eq_some_iff.1 hwd).1
    have gk : ∀ (L : List AObj) (k : Nat), (H ++ L)[H.length + k]? = L[k]? := fun L k => by rw [List.getElem?_append_right (by omega)]; congr 1; omega
    have g0 : ∀ (L : List AObj), (H ++ L)[H.length]? = L[0]? := fun L => by rw [List.getElem?_append_right (by omega)]; congr 1; omega
    have gw : ∀ (L : List AObj), (H ++ L)[wid]? = some (.cells (wcel w0 w1 w2 w3 r)) := fun L => by rw [List.getElem?_append_left hlt]; exact hwd
    have sk : ∀ (L : List AObj) (k : Nat) (o : AObj), (H ++ L).set (H.length + k) o = H ++ L.set k o := fun L k o => by rw [List.set_append_right _ _ (by omega)]; congr 2; omega
    have s0 : ∀ (L : List AObj) (o : AObj), (H ++ L).set H.length o = H ++ L.set 0 o := fun L o => by rw [List.set_append_right _ _ (by omega)]; congr 2; omega
    unfold wcel at gw
    have g31 : H.length + 3 + 1 = H.length + 4 := rfl
    have i16 : ((16 : Nat) : Int) = 16 := rfl
    have i0 : (0 : Int).toNat = 0 := rfl
    have ro : ofI w0 w1 w2 w3 r = if w0 = 0 then (zeroI, 0) else if goodI w0 w1 w2 w3 r then (decI w0 w1 w2 w3 r, 0) else (zeroI, 240) := rfl
    by_cases h0 : w0 = 0
    · rw [if_pos h0] at ro
      rw [ro]
      subst h0
      have ev : ofIV zeroI 0 = .tup [.agg [.int .i64 0, .int .i64 0, .int .i64 0, .sl 0 0 [] .z, .int .i64 0, .int .i64 0, .str ⟨#[]⟩], .int .i64 0] := rfl
      simp (disch := omega) only [wk, avalE, aactE, evPE, boundE, asNat, bv_seql cellsEq_ii, bv_sneqd cellsEq_ii, readC, allOne, fillL, resE, tupled, ↓reduceIte, Nat.reduceEqDiff, Int.reduceEq, Int.reduceLT, Int.reduceLE, Nat.reduceAdd, Nat.reduceMul, Nat.reduceLT, Nat.reduceLeDiff, reduceCtorEq, i16, i0, mt, List.append_assoc, gk, g0, gw, sk, s0, ev]
      rw [ends_left_ret (caught_ret _ _ _ _)]
      simp (disch := omega) only [wk, avalE, aactE, evPE, boundE, asNat, bv_seql cellsEq_ii, bv_sneqd cellsEq_ii, readC, allOne, fillL, resE, tupled, ↓reduceIte, Nat.reduceEqDiff, Int.reduceEq, Int.reduceLT, Int.reduceLE, Nat.reduceAdd, Nat.reduceMul, Nat.reduceLT, Nat.reduceLeDiff, reduceCtorEq, List.append_assoc, gk, g0, gw, sk, s0]
      exact ⟨by omega, fun k hk => List.getElem?_append_left hk⟩
    rw [if_neg h0] at ro
    have hg : goodI w0 w1 w2 w3 r := hgo.resolve_left h0
    rw [if_pos hg] at ro
    rw [ro]
    have fa := fun H => f08 w0 hw.u0.1 hw.u0.2 H
    have fb := fun H => f824 w0 hw.u0.1 hw.u0.2 H
    have v1 : IntKind.i64.wrap (w0 % 256) = w0 % 256 := wrap_i64 (by omega) (by omega)
    have v2 : IntKind.i64.wrap (w0 / 256 % 16777216) = w0 / 256 % 16777216 := wrap_i64 (by omega) (by omega)
    have kp := fun H => kinds_px H
    have hk : w0 % 256 ≤ 3 := by have := okI_kind hg.1; simp only [decI] at this; omega
    obtain ⟨q, fd⟩ := find_k (k := w0 % 256) (by omega) hk
    obtain ⟨f1', f2', f3', hka⟩ := kindA_take (w0 % 256)
    rw [hka] at fd
    have tn := fun id H => takeFM_none (w0 % 256) id wid H
    have tl := takeF_lent (w0 % 256)
    obtain ⟨Hd, hHd⟩ : ∃ Hd : Heap, Hd = H ++ [.cells [.int .i64 0, .int .i64 0, .int .i64 0, .sl 0 0 [] .z, .int .i64 0, .int .i64 0, .str ⟨#[]⟩], .cells [.int .i64 0], .cells (inoC ⟨w0 % 256, w0 / 256 % 16777216, 0, [], 0, 0, ⟨#[]⟩⟩ nilm'), .map kindsE, .cells [.fn f1' [], .fn f2' [], .fn f3' [], .fn (takeF (w0 % 256)) []]] := ⟨_, rfl⟩
    have hld : Hd.length = H.length + 5 := by rw [hHd]; simp
    obtain ⟨H2, p2, p3, p4, p5⟩ := takeM_all w0 w1 w2 w3 r hw hg (H.length + 2) wid Hd (by omega) (by rw [hHd, gk]; rfl) (by rw [hHd]; exact gw _)
    have q0 : H2[H.length]? = some (.cells [.int .i64 0, .int .i64 0, .int .i64 0, .sl 0 0 [] .z, .int .i64 0, .int .i64 0, .str ⟨#[]⟩]) := by rw [p5 _ (by omega) (by omega), hHd, g0]; rfl
    have q1 : H2[H.length + 1]? = some (.cells [.int .i64 0]) := by rw [p5 _ (by omega) (by omega), hHd, gk]; rfl
    have qw : H2[wid]? = some (.cells (wcel w0 w1 w2 w3 r)) := by rw [p5 _ (by omega) (by omega), hHd]; exact gw _
    have qk : ∀ k, k < H.length → H2[k]? = H[k]? := fun k hk => by rw [p5 _ (by omega) (by omega), hHd, List.getElem?_append_left hk]
    have t0 : H.length < H2.length := (List.getElem?_eq_some_iff.1 q0).1
    have t1 : H.length + 1 < H2.length := (List.getElem?_eq_some_iff.1 q1).1
    rw [hHd] at p2
    have hml : (decI w0 w1 w2 w3 r).map.length ≤ 1000 := by
      simp only [decI]
      split
      · have := readE_len (w10 w2 w3 r)
        have := hw.w10.1
        omega
      · simp
    have wp := fun H => words_px (decI w0 w1 w2 w3 r) (mapV (decI w0 w1 w2 w3 r).map) (MapR.of _) hml H
    have mo1 := (MapR.of (decI w0 w1 w2 w3 r).map).one.1
    have mo2 := (MapR.of (decI w0 w1 w2 w3 r).map).one.2
    simp only [inoA] at wp
    unfold inoC nilm' at p2
    unfold inoC at p3
    rw [wordsV_ok hg.1] at wp
    have wl := wordsI_len hg.1
    have hr12 := hw.len
    have l16 : (w0 :: w1 :: w2 :: w3 :: r).length = 16 := by simp [hr12]
    have g0s : ∀ A B, ((H2.set H.length A).set (H.length + 1) B)[H.length]? = some A := fun A B => by rw [List.getElem?_set_ne (by omega), List.getElem?_set_self t0]
    have g1s : ∀ A B, ((H2.set H.length A).set (H.length + 1) B)[H.length + 1]? = some B := fun A B => List.getElem?_set_self (by rw [List.length_set]; exact t1)
    have g2s : ∀ A, (H2.set H.length A)[H.length + 1]? = some (.cells [.int .i64 0]) := fun A => by rw [List.getElem?_set_ne (by omega)]; exact q1
    have ev : ofIV (decI w0 w1 w2 w3 r) 0 = .tup [.agg (inoC (decI w0 w1 w2 w3 r) (mapV (decI w0 w1 w2 w3 r).map)), .int .i64 0] := rfl
    have eq := equal_v (a := wordsI (decI w0 w1 w2 w3 r)) (b := w0 :: w1 :: w2 :: w3 :: r) (r1 := []) (r2 := []) (H := H2) (lendK_sl H2 4 1 _ _ .ro) (by have := lend_msl (w := w0 :: w1 :: w2 :: w3 :: r) (l := w0 :: w1 :: w2 :: w3 :: r) (rest := []) (off := 0) (H := H2) (id := wid) qw (by simp) (by simp); rw [l16] at this ⊢; exact this) (by omega) (by simp [hr12]) (fun _ => rfl) (fun _ => rfl) rfl rfl rfl rfl
    rw [wl, List.append_nil, decide_eq_true hg.2] at eq
    simp (disch := omega) only [wk, avalE, aactE, evPE, boundE, asNat, bv_seql cellsEq_ii, bv_sneqd cellsEq_ii, readC, allOne, fillL, resE, tupled, ↓reduceIte, Nat.reduceEqDiff, Int.reduceEq, Int.reduceLT, Int.reduceLE, Nat.reduceAdd, Nat.reduceMul, Nat.reduceLT, Nat.reduceLeDiff, reduceCtorEq, i16, i0, mt, h0, fa, fb, v1, v2, kp, List.getElem?_nil, fd, cellEq_ii, tn, runE_none tl, List.append_assoc, g31, gk, g0, gw, sk, s0, p2, p3, wp, eq, mo1, mo2, q0, q1, g2s, List.append_nil]
    rw [ends_left_ret (caught_ret _ _ _ _)]
    simp (disch := omega) only [wk, avalE, aactE, evPE, boundE, asNat, bv_seql cellsEq_ii, bv_sneqd cellsEq_ii, readC, allOne, fillL, resE, tupled, ↓reduceIte, Nat.reduceEqDiff, Int.reduceEq, Int.reduceLT, Int.reduceLE, Nat.reduceAdd, Nat.reduceMul, Nat.reduceLT, Nat.reduceLeDiff, reduceCtorEq, g0s, g1s, ev]
    exact ⟨rfl, by rw [List.length_set, List.length_set]; omega, fun k hk => by rw [List.getElem?_set_ne (by omega), List.getElem?_set_ne (by omega), qk k hk]⟩
  obtain ⟨o, H', h, rfl, h2⟩ := key
  exact ⟨H', h, h2⟩
end Go.Proofs.Ytncmflmjlocgiaa
