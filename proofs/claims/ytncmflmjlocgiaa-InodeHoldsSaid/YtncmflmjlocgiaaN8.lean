/- THE WALKS OF WHAT LAYS AN INODE'S WORDS. No condition but those stated. -/
import Derived.Test.YtncmflmjlocgiaaN0
set_option linter.unusedSimpArgs false
set_option linter.unusedVariables false
set_option linter.unusedSectionVars false
namespace Go.Proofs.Ytncmflmjlocgiaa
open Go Go.Am Go.Rec Go.Ino
set_option maxHeartbeats 4000000
set_option maxRecDepth 10000
def putF : List Int → Nat → List Int → List Int
  | w, _, [] => w
  | w, j, v :: r => putF (w.set j v) (j + 1) r
theorem putF_len : ∀ (l w : List Int) (j : Nat), (putF w j l).length = w.length
  | [], _, _ => rfl
  | v :: r, w, j => by rw [putF, putF_len r, List.length_set]
theorem putF_app : ∀ (l a b : List Int), l.length ≤ b.length → putF (a ++ b) a.length l = a ++ l ++ b.drop l.length
  | [], a, b, _ => by simp [putF]
  | v :: r, a, [], h => by simp at h
  | v :: r, a, x :: b, h => by
    have e : (a ++ x :: b).set a.length v = (a ++ [v]) ++ b := by
      rw [List.set_append_right _ _ (Nat.le_refl _), Nat.sub_self]; simp
    have el : a.length + 1 = (a ++ [v]).length := by simp
    rw [putF, e, el, putF_app r (a ++ [v]) b (by simpa using h)]
    simp
theorem put1_ic (id bx : Nat) (j : Nat) (v : Int) (w : List Int) (H : Heap) (hid : H[id]? = some (.cells (encs u64A w))) (hbx : H[bx]? = some (.cells [.msl 1 id 0 16])) (hw : w.length = 16) (hj : 1 + j < 16) :
    pcx (cbL tab) 140 [.int .i64 (j : Nat), .int .u64 v, .ptr bx 0] H = none ∧ (cbL tab).ic 140 [.int .i64 (j : Nat), .int .u64 v, .ptr bx 0] H = some (.ret (.tup []), H.set id (.cells (encs u64A (w.set (1 + j) v)))) := by
  refine ⟨pcx_none rfl (pc_none (fi := c140) rfl rfl), ?_⟩
  have : ∃ o H', (cbL tab).ic 140 [.int .i64 (j : Nat), .int .u64 v, .ptr bx 0] H = some (o, H') ∧ o = .ret (.tup []) ∧ H' = H.set id (.cells (encs u64A (w.set (1 + j) v))) := by
    refine ic_wp (fi := c140) rfl rfl (by simp [c140]) (by decide) ?_
    unfold c140
    have su := setU w (1 + j) v (by omega)
    have lw := lenU w
    have e1 : (1 : Int) + (j : Int) = ((1 + j : Nat) : Int) := by omega
    have n1 : ((1 + j : Nat) : Int) < ((16 : Nat) : Int) := by omega
    have n0 : (0 : Int) ≤ ((1 + j : Nat) : Int) := by omega
    simp (disch := omega) only [wk, avalE, aactE, evPE, boundE, asNat, bv_seql cellsEq_ii, bv_sneqd cellsEq_ii, readC, allOne, fillL, resE, tupled, ↓reduceIte, Nat.reduceEqDiff, Int.reduceEq, Int.reduceLT, Int.reduceLE, Nat.reduceAdd, Nat.reduceMul, Nat.reduceLT, Nat.reduceLeDiff, reduceCtorEq, hbx, hid, e1, n1, n0, su, lw, hw, Nat.zero_add]
  obtain ⟨o, H', h, rfl, rfl⟩ := this
  exact h
theorem lput1 : (cbL tab).lent 140 = false := rfl
theorem put_ic (id : Nat) (w l : List Int) (rest : List AV) (s : Nat) (tk : Tk) (H : Heap) (hid : H[id]? = some (.cells (encs u64A w))) (hw : w.length = 16) (hl : l.length ≤ 15) (hz : l ≠ [] → s = 1) :
    pcx (cbL tab) 109 [.msl 1 id 0 16, .sl s l.length (encs u64A l ++ rest) tk] H = none ∧ ∃ H', (cbL tab).ic 109 [.msl 1 id 0 16, .sl s l.length (encs u64A l ++ rest) tk] H = some (.ret (.tup []), H') ∧
      H'[id]? = some (.cells (encs u64A (putF w 1 l))) ∧ H.length ≤ H'.length ∧ ∀ k, k ≠ id → k < H.length → H'[k]? = H[k]? := by
  refine ⟨pcx_none rfl (pc_none (fi := c109) rfl rfl), ?_⟩
  have : ∃ o H', (cbL tab).ic 109 [.msl 1 id 0 16, .sl s l.length (encs u64A l ++ rest) tk] H = some (o, H') ∧ o = .ret (.tup []) ∧ H'[id]? = some (.cells (encs u64A (putF w 1 l))) ∧ H.length ≤ H'.length ∧ ∀ k, k ≠ id → k < H.length → H'[k]? = H[k]? := by
    refine ic_wp (fi := c109) rfl rfl (by simp [c109]) (by decide) ?_
    unfold c109
    have hlt : id < H.length := (List.getElem?_eq_some_iff.1 hid).1
    simp (disch := omega) only [wk, avalE, aactE, evPE, boundE, asNat, bv_seql cellsEq_ii, bv_sneqd cellsEq_ii, readC, allOne, fillL, resE, tupled, ↓reduceIte, Nat.reduceEqDiff, Int.reduceEq, Int.reduceLT, Int.reduceLE, Nat.reduceAdd, Nat.reduceMul, Nat.reduceLT, Nat.reduceLeDiff, reduceCtorEq]
    refine loop_ind (fun (x : List Int × List Int × List Int) E df H1 => l = x.1 ++ x.2.1 ∧ putF w 1 l = putF x.2.2 (1 + x.1.length) x.2.1 ∧ x.2.2.length = 16 ∧ E 2 = .ptr H.length 0 ∧ E 4 = .fn 140 [.ptr H.length 0] ∧ E 8 = .sl s l.length (encs u64A l ++ rest) tk ∧ E 9 = .int .i64 (l.length : Nat) ∧ E 10 = .int .i64 (x.1.length : Nat) ∧ df = [] ∧
        H1[id]? = some (.cells (encs u64A x.2.2)) ∧ H1[H.length]? = some (.cells [.msl 1 id 0 16]) ∧ H.length ≤ H1.length ∧ ∀ k, k ≠ id → k < H.length → H1[k]? = H[k]?)
      (fun x => x.2.1.length) ([], l, w) (by decide) (.inl rfl) ⟨rfl, rfl, hw, rfl, rfl, rfl, rfl, rfl, rfl, by rw [List.getElem?_append_left hlt]; exact hid, by simp, by simp, fun k _ hk => List.getElem?_append_left hk⟩ ?_
    intro ⟨pre, suf, w1⟩ E df H1 ih hP
    obtain ⟨a1, a2, hw1, E2, E4, E8, E9, E10, hdf, h0, h1, hle, hold⟩ := hP
    dsimp only at a1 a2 hw1 E10 h0
    subst hdf
    have hll : l.length = pre.length + suf.length := by rw [a1, List.length_append]
    cases suf with
    | nil =>
      simp only [List.length_nil, Nat.add_zero] at hll
      have e : putF w 1 l = w1 := a2
      simp (disch := omega) only [wk, avalE, aactE, evPE, boundE, asNat, bv_seql cellsEq_ii, bv_sneqd cellsEq_ii, readC, allOne, fillL, resE, tupled, ↓reduceIte, Nat.reduceEqDiff, Int.reduceEq, Int.reduceLT, Int.reduceLE, Nat.reduceAdd, Nat.reduceMul, Nat.reduceLT, Nat.reduceLeDiff, reduceCtorEq, E2, E4, E8, E9, E10, hll]
      rw [e]
      exact ⟨h0, hle, hold⟩
    | cons v r =>
      simp only [List.length_cons] at hll
      obtain rfl := hz (by rw [a1]; simp)
      have d := wdrop pre v r rest
      rw [← a1] at d
      have n1 : (pre.length : Int) < (l.length : Int) := by omega
      obtain ⟨p1, p2⟩ := put1_ic id H.length pre.length v w1 H1 h0 h1 hw1 (by omega)
      simp (disch := omega) only [wk, avalE, aactE, evPE, boundE, asNat, bv_seql cellsEq_ii, bv_sneqd cellsEq_ii, readC, allOne, fillL, resE, tupled, ↓reduceIte, Nat.reduceEqDiff, Int.reduceEq, Int.reduceLT, Int.reduceLE, Nat.reduceAdd, Nat.reduceMul, Nat.reduceLT, Nat.reduceLeDiff, reduceCtorEq, E2, E4, E8, E9, E10, n1, d, p1, p2, runE_none lput1]
      refine ih (pre ++ [v], r, w1.set (1 + pre.length) v) _ _ _ (by simp) ?_
      refine ⟨by simp [a1], ?_, by rw [List.length_set]; exact hw1, by simp only [en, ↓reduceIte, Nat.reduceEqDiff, E2], by simp only [en, ↓reduceIte, Nat.reduceEqDiff, E4], by simp only [en, ↓reduceIte, Nat.reduceEqDiff, E8], by simp only [en, ↓reduceIte, Nat.reduceEqDiff, E9], by simp only [en, ↓reduceIte, Nat.reduceEqDiff], rfl, List.getElem?_set_self (List.getElem?_eq_some_iff.1 h0).1, ?_, by rw [List.length_set]; exact hle, fun k hk1 hk2 => ?_⟩
      · rw [a2, putF]
        dsimp only
        rw [List.length_append]; rfl
      · rw [List.getElem?_set_ne (by omega)]; exact h1
      · rw [List.getElem?_set_ne (fun e => hk1 e.symm)]; exact hold k hk1 hk2
  obtain ⟨o, H', h, rfl, h2⟩ := this
  exact ⟨H', h, h2⟩
theorem lput : (cbL tab).lent 109 = false := rfl
/-- What a lay does. -/
def LayP (f : FuncId) (n : Ino) (m : AV) (l : List Int) : Prop := ∀ (id : Nat) (w : List Int) (H : Heap), H[id]? = some (.cells (encs u64A w)) → w.length = 16 →
  pcx (cbL tab) f [inoA n m, .msl 1 id 0 16] H = none ∧ ∃ H', (cbL tab).ic f [inoA n m, .msl 1 id 0 16] H = some (.ret (.tup []), H') ∧ H'[id]? = some (.cells (encs u64A (putF w 1 l))) ∧ H.length ≤ H'.length ∧ ∀ k, k ≠ id → k < H.length → H'[k]? = H[k]?
theorem lay0 (n : Ino) (m : AV) (hm : MapR m n.map) : LayP 101 n m [] := by
  intro id w H hid hw
  refine ⟨pcx_none rfl (pc_none (fi := c101) rfl (by simp [pcOn, c101, lend, unown, hfL, AV.hf])), ?_⟩
  have hlt : id < H.length := (List.getElem?_eq_some_iff.1 hid).1
  have : ∃ o H', (cbL tab).ic 101 [inoA n m, .msl 1 id 0 16] H = some (o, H') ∧ o = .ret (.tup []) ∧ H'[id]? = some (.cells (encs u64A (putF w 1 []))) ∧ H.length ≤ H'.length ∧ ∀ k, k ≠ id → k < H.length → H'[k]? = H[k]? := by
    refine ic_wp (fi := c101) rfl (by simp [pcOn, c101, lend, unown, hfL, AV.hf]) (by simp [c101]) (by decide) ?_
    unfold c101
    have m1 := hm.one.1
    have m2 := hm.one.2
    simp only [inoA]
    simp (disch := omega) only [wk, avalE, aactE, evPE, boundE, asNat, bv_seql cellsEq_ii, bv_sneqd cellsEq_ii, readC, allOne, fillL, resE, tupled, ↓reduceIte, Nat.reduceEqDiff, Int.reduceEq, Int.reduceLT, Int.reduceLE, Nat.reduceAdd, Nat.reduceMul, Nat.reduceLT, Nat.reduceLeDiff, reduceCtorEq, m1, m2]
    exact ⟨by rw [List.getElem?_append_left hlt]; exact hid, by omega, fun k _ hk => List.getElem?_append_left hk⟩
  obtain ⟨o, H', h, rfl, h2⟩ := this
  exact ⟨H', h, h2⟩
theorem lay2 (n : Ino) (m : AV) (hm : MapR m n.map) (h1 : 0 ≤ n.root) (h2 : n.root < 9223372036854775807) (h3 : 0 ≤ n.parent) (h4 : n.parent < 9223372036854775807) : LayP 115 n m [0, n.root, n.parent] := by
  intro id w H hid hw
  refine ⟨pcx_none rfl (pc_none (fi := c115) rfl (by simp [pcOn, c115, lend, unown, hfL, AV.hf])), ?_⟩
  have hlt : id < H.length := (List.getElem?_eq_some_iff.1 hid).1
  have : ∃ o H', (cbL tab).ic 115 [inoA n m, .msl 1 id 0 16] H = some (o, H') ∧ o = .ret (.tup []) ∧ H'[id]? = some (.cells (encs u64A (putF w 1 [0, n.root, n.parent]))) ∧ H.length ≤ H'.length ∧ ∀ k, k ≠ id → k < H.length → H'[k]? = H[k]? := by
    refine ic_wp (fi := c115) rfl (by simp [pcOn, c115, lend, unown, hfL, AV.hf]) (by simp [c115]) (by decide) ?_
    unfold c115
    have m1 := hm.one.1
    have m2 := hm.one.2
    have v1 : IntKind.u64.wrap n.root = n.root := wrap_u64 (by omega) (by omega)
    have v2 : IntKind.u64.wrap n.parent = n.parent := wrap_u64 (by omega) (by omega)
    obtain ⟨p1, H2, p2, p3, p4, p5⟩ := put_ic id w [0, n.root, n.parent] [] 1 .ro (H ++ [.cells (inoC n m)]) (by rw [List.getElem?_append_left hlt]; exact hid) hw (by simp) (fun _ => rfl)
    have e3 : encs u64A [0, n.root, n.parent] ++ [] = [.int .u64 0, .int .u64 n.root, .int .u64 n.parent] := rfl
    have e4 : ([0, n.root, n.parent] : List Int).length = 3 := rfl
    rw [e3, e4] at p1 p2
    unfold inoC at p1 p2
    simp only [inoA]
    have nx : ∀ A : AObj, (H ++ [A])[H.length]? = some A := fun A => by simp
    simp (disch := omega) only [wk, avalE, aactE, evPE, boundE, asNat, bv_seql cellsEq_ii, bv_sneqd cellsEq_ii, readC, allOne, fillL, resE, tupled, ↓reduceIte, Nat.reduceEqDiff, Int.reduceEq, Int.reduceLT, Int.reduceLE, Nat.reduceAdd, Nat.reduceMul, Nat.reduceLT, Nat.reduceLeDiff, reduceCtorEq, m1, m2, nx, v1, v2, p1, p2, runE_none lput]
    refine ⟨p3, by simp at p4; omega, fun k hk1 hk2 => ?_⟩
    rw [p5 k hk1 (by simp; omega), List.getElem?_append_left hk2]
  obtain ⟨o, H', h, rfl, h2⟩ := this
  exact ⟨H', h, h2⟩
theorem app_e2 (x : Int) (l : List Int) (tk : Tk) (H : Heap) (h0 : l ≠ []) (hl : l.length ≤ 1000) :
    appV 1 8 (.sl 1 1 [.int .u64 x] .e) (.sl 1 l.length (encs u64A l) tk) H = some (.val (.sl 1 (1 + l.length) (encs u64A (x :: l)) (.own H.length)), H ++ [.tok 1]) := by
  have h1 : l.length ≠ 0 := fun h => h0 (List.length_eq_zero_iff.1 h)
  have h2 : (1 + l.length) * 8 ≤ 70368744177664 := by omega
  have h3 : 1 + l.length ≤ 70368744177664 := by omega
  have ht : (encs u64A l).take l.length = encs u64A l := List.take_of_length_le (by rw [lenU]; exact Nat.le_refl _)
  have ht' : (encs u64A l).take (l.length * 1) = encs u64A l := by rw [Nat.mul_one]; exact ht
  simp only [appV, ht, ht', lenU, Nat.mul_one, h1, h2, h3, one_u64A, if_true, if_false, true_and, and_true, and_self, Nat.le_refl, List.length_cons, List.length_nil, Nat.zero_add, Nat.zero_lt_one, Nat.one_mul]
  rfl
theorem lay1 (n : Ino) (m : AV) (hm : MapR m n.map) (ho : (ofM n.map).isSome = true) (h1 : 0 ≤ n.size) (h2 : n.size ≤ 65536) : LayP 107 n m (n.size :: wordsE n.map) := by
  intro id w H hid hw
  refine ⟨pcx_none rfl (pc_none (fi := c107) rfl (by simp [pcOn, c107, lend, unown, hfL, AV.hf])), ?_⟩
  have hlt : id < H.length := (List.getElem?_eq_some_iff.1 hid).1
  have : ∃ o H', (cbL tab).ic 107 [inoA n m, .msl 1 id 0 16] H = some (o, H') ∧ o = .ret (.tup []) ∧ H'[id]? = some (.cells (encs u64A (putF w 1 (n.size :: wordsE n.map)))) ∧ H.length ≤ H'.length ∧ ∀ k, k ≠ id → k < H.length → H'[k]? = H[k]? := by
    refine ic_wp (fi := c107) rfl (by simp [pcOn, c107, lend, unown, hfL, AV.hf]) (by simp [c107]) (by decide) ?_
    unfold c107
    rw [z10]
    have m1 := hm.one.1
    have m2 := hm.one.2
    obtain ⟨s, rest, tk, hme, hz, hr, htk⟩ := hm
    obtain ⟨hl10, hright⟩ := isSome_right ho
    have xw : ∀ H, pcx (cbL tab) 108 [m] H = some (.plain (xwV (xwR n.map))) := fun H => by rw [hme]; exact xwords_px n.map s rest tk hz hr (by omega) H
    have e : xwR n.map = (wordsE n.map, 0) := by unfold xwR; rw [ho]; rfl
    rw [e] at xw
    simp only [xwV, arrV] at xw
    have wl := wordsE_len hl10
    have lw := lenU (wordsE n.map)
    have n10 : (wordsE []).length = 10 := rfl
    have lz := lenU (wordsE [])
    have dz := dr10 (wordsE []) rfl
    have ow := one_u64A (wordsE n.map)
    have v1 : IntKind.u64.wrap n.size = n.size := wrap_u64 (by omega) (by omega)
    have hne : wordsE n.map ≠ [] := fun h => by rw [h] at wl; cases wl
    have ro : rowOf (H ++ [AObj.cells (inoC n m), .cells (encs u64A (wordsE n.map))]) (.msl 1 (H.length + 1) 0 10) = .sl 1 (wordsE n.map).length (encs u64A (wordsE n.map)) .ro := by
      rw [rowOf_msl (get_a1 ..) (by rw [lenU, wl]; decide) (by decide), List.drop_zero, List.take_of_length_le (by rw [lenU, wl]; decide), wl]
    have ap := app_e2 n.size (wordsE n.map) .ro (H ++ [AObj.cells (inoC n m), .cells (encs u64A (wordsE n.map))]) hne (by omega)
    obtain ⟨p1, H2, p2, p3, p4, p5⟩ := put_ic id w (n.size :: wordsE n.map) [] 1 (.own (H ++ [AObj.cells (inoC n m), .cells (encs u64A (wordsE n.map))]).length) (H ++ [AObj.cells (inoC n m), .cells (encs u64A (wordsE n.map))] ++ [.tok 1])
      (by rw [List.append_assoc, List.getElem?_append_left hlt]; exact hid) hw (by simp [wl]) (fun _ => rfl)
    have el : (n.size :: wordsE n.map).length = 1 + (wordsE n.map).length := by rw [List.length_cons, Nat.add_comm]
    rw [el, List.append_nil] at p1 p2
    have nx : ∀ A B : AObj, (H ++ [A, B])[H.length]? = some A := fun A B => by simp
    have nx1 : ∀ A : AObj, (H ++ [A])[H.length]? = some A := fun A => by simp
    have w1 : H ++ [AObj.cells (inoC n m), .cells (encs u64A (wordsE []))] = (H ++ [AObj.cells (inoC n m)]) ++ [.cells (encs u64A (wordsE []))] := by simp
    simp only [inoA]
    unfold inoC at ro ap p1 p2
    simp (disch := omega) only [wk, avalE, aactE, evPE, boundE, asNat, bv_seql cellsEq_ii, bv_sneqd cellsEq_ii, readC, allOne, fillL, resE, tupled, ↓reduceIte, Nat.reduceEqDiff, Int.reduceEq, Int.reduceLT, Int.reduceLE, Nat.reduceAdd, Nat.reduceMul, Nat.reduceLT, Nat.reduceLeDiff, reduceCtorEq, m1, m2, nx, nx1, get_a1, set_a1, xw, n10, lz, dz, wl, lw, ow, flat_arr, List.append_nil, List.append_assoc, v1]
    rw [ro, ap]
    simp only [encs_cons, List.length_append, List.length_cons, List.length_nil, List.append_assoc, List.cons_append, List.nil_append, Nat.zero_add, Nat.reduceAdd] at p1 p2
    simp (disch := omega) only [wk, avalE, aactE, evPE, boundE, asNat, bv_seql cellsEq_ii, bv_sneqd cellsEq_ii, readC, allOne, fillL, resE, tupled, ↓reduceIte, Nat.reduceEqDiff, Int.reduceEq, Int.reduceLT, Int.reduceLE, Nat.reduceAdd, Nat.reduceMul, Nat.reduceLT, Nat.reduceLeDiff, reduceCtorEq, p1, p2, runE_none lput, List.append_assoc]
    refine ⟨p3, by simp at p4; omega, fun k hk1 hk2 => ?_⟩
    rw [p5 k hk1 (by simp; omega), List.append_assoc, List.getElem?_append_left hk2]
  obtain ⟨o, H', h, rfl, h2⟩ := this
  exact ⟨H', h, h2⟩
theorem layM_ne_nil {l : List UInt8} (h : l ≠ []) : layM l ≠ [] := by rw [layM_ne h]; simp
theorem prRow_ne {α : Type} {sz : Nat} {f : α → List AV} {l : List α} (h : l ≠ []) : prRow sz f l = .fresh sz l.length (encs f l) := by
  unfold prRow
  have : l.isEmpty = false := by cases l with
    | nil => exact absurd rfl h
    | cons _ _ => rfl
  rw [this]; rfl
theorem lay3 (n : Ino) (m : AV) (hm : MapR m n.map) (h1 : 1 ≤ n.target.size) (h2 : n.target.size ≤ 112) : LayP 120 n m ((n.target.size : Int) :: layM n.target.data.toList) := by
  intro id w H hid hw
  refine ⟨pcx_none rfl (pc_none (fi := c120) rfl (by simp [pcOn, c120, lend, unown, hfL, AV.hf])), ?_⟩
  have hlt : id < H.length := (List.getElem?_eq_some_iff.1 hid).1
  have : ∃ o H', (cbL tab).ic 120 [inoA n m, .msl 1 id 0 16] H = some (o, H') ∧ o = .ret (.tup []) ∧ H'[id]? = some (.cells (encs u64A (putF w 1 ((n.target.size : Int) :: layM n.target.data.toList)))) ∧ H.length ≤ H'.length ∧ ∀ k, k ≠ id → k < H.length → H'[k]? = H[k]? := by
    refine ic_wp (fi := c120) rfl (by simp [pcOn, c120, lend, unown, hfL, AV.hf]) (by simp [c120]) (by decide) ?_
    unfold c120
    have m1 := hm.one.1
    have m2 := hm.one.2
    have hsd := size_data n.target
    have hne0 : n.target.data.toList ≠ [] := fun h => by rw [h] at hsd; simp at hsd; omega
    have lp := fun H => lay_px n.target.data.toList 1 .ro H (by omega) rfl
    rw [prRow_ne (layM_ne_nil hne0)] at lp
    rw [hsd, ← bytesA_encs] at lp
    have ll := layM_len n.target.data.toList
    rw [hsd] at ll
    have hne := layM_ne_nil hne0
    have v1 : IntKind.u64.wrap (n.target.size : Int) = (n.target.size : Int) := wrap_u64 (by omega) (by omega)
    have s1 : (n.target.size : Nat) ≤ 70368744177664 := by omega
    have ap := fun tk H => app_e2 (n.target.size : Int) (layM n.target.data.toList) tk H hne (by omega)
    obtain ⟨p1, H2, p2, p3, p4, p5⟩ := put_ic id w ((n.target.size : Int) :: layM n.target.data.toList) [] 1 (.own (H ++ [AObj.cells (inoC n m), .tok 1]).length) (H ++ [AObj.cells (inoC n m), .tok 1] ++ [.tok 1])
      (by rw [List.append_assoc, List.getElem?_append_left hlt]; exact hid) hw (by rw [List.length_cons, ll]; omega) (fun _ => rfl)
    have el : ((n.target.size : Int) :: layM n.target.data.toList).length = 1 + (layM n.target.data.toList).length := by rw [List.length_cons, Nat.add_comm]
    rw [el, List.append_nil] at p1 p2
    have nx1 : ∀ A : AObj, (H ++ [A])[H.length]? = some A := fun A => by simp
    simp only [inoA]
    unfold inoC at p1 p2
    simp (disch := omega) only [wk, avalE, aactE, evPE, boundE, asNat, bv_seql cellsEq_ii, bv_sneqd cellsEq_ii, readC, allOne, fillL, resE, tupled, ↓reduceIte, Nat.reduceEqDiff, Int.reduceEq, Int.reduceLT, Int.reduceLE, Nat.reduceAdd, Nat.reduceMul, Nat.reduceLT, Nat.reduceLeDiff, reduceCtorEq, m1, m2, nx1, v1, s1, lp, ap, List.append_nil, List.append_assoc]
    simp only [encs_cons, List.append_assoc, List.cons_append, List.nil_append, List.length_append, List.length_cons, List.length_nil, Nat.zero_add, Nat.reduceAdd] at p1 p2
    simp (disch := omega) only [wk, avalE, aactE, evPE, boundE, asNat, bv_seql cellsEq_ii, bv_sneqd cellsEq_ii, readC, allOne, fillL, resE, tupled, ↓reduceIte, Nat.reduceEqDiff, Int.reduceEq, Int.reduceLT, Int.reduceLE, Nat.reduceAdd, Nat.reduceMul, Nat.reduceLT, Nat.reduceLeDiff, reduceCtorEq, p1, p2, runE_none lput, List.append_assoc]
    refine ⟨p3, by simp at p4; omega, fun k hk1 hk2 => ?_⟩
    rw [p5 k hk1 (by simp; omega), List.append_assoc, List.getElem?_append_left hk2]
  obtain ⟨o, H', h, rfl, h2⟩ := this
  exact ⟨H', h, h2⟩
/-- What is told of an inode's words. -/
def wordsV (n : Ino) : AV := if okI n then .tup [.sl 1 16 (encs u64A (wordsI n)) .ro, .int .i64 0] else .tup [.sl 0 0 [] .z, .int .i64 240]
theorem wordsV_ok {n : Ino} (h : okI n) : wordsV n = .tup [.sl 1 16 (encs u64A (wordsI n)) .ro, .int .i64 0] := if_pos h
theorem wordsV_no {n : Ino} (h : ¬ okI n) : wordsV n = .tup [.sl 0 0 [] .z, .int .i64 240] := if_neg h
theorem tailI_len {n : Ino} (h : okI n) : (tailI n).length ≤ 15 := by
  obtain ⟨_, _, h | h | h | h⟩ := h
  · simp [tailI, h.1]
  · have ho : (ofM n.map).isSome = true := by
      have h1 := h.2.2.2.2.2.2
      unfold mapOk at h1
      cases hm : ofM n.map with
      | none => rw [hm] at h1; cases h1
      | some t => rfl
    have := wordsE_len (isSome_right ho).1
    simp [tailI, h.1, this]
  · simp [tailI, h.1]
  · have hl := layM_len n.target.data.toList
    rw [size_data] at hl
    have := h.2.2.2.2.2.2.1
    simp [tailI, h.1, hl]
    omega
theorem put_words {n : Ino} (h : okI n) : putF ((n.kind + 256 * n.links) :: List.replicate 15 0) 1 (tailI n) = wordsI n := by
  have hl := tailI_len h
  have := putF_app (tailI n) [n.kind + 256 * n.links] (List.replicate 15 0) (by simpa using hl)
  rw [List.length_singleton] at this
  rw [List.cons_append, List.nil_append] at this
  rw [this, wordsI, List.drop_replicate]
  simp
theorem wordsI_len {n : Ino} (h : okI n) : (wordsI n).length = 16 := by
  have hl := tailI_len h
  rw [wordsI, List.length_cons, List.length_append, List.length_replicate]
  omega
theorem mapOk_some {l : List Ext} {s : Int} (h : mapOk l s = true) : (ofM l).isSome = true := by
  unfold mapOk at h
  cases hm : ofM l with
  | none => rw [hm] at h; cases h
  | some t => rfl
/-- The lay of an inode's kind. -/
def layF (k : Int) : FuncId := if k = 1 then 107 else if k = 2 then 115 else if k = 3 then 120 else 101
theorem lay_of (n : Ino) (m : AV) (hm : MapR m n.map) (h : okI n) : LayP (layF n.kind) n m (tailI n) := by
  obtain ⟨_, _, h | h | h | h⟩ := h
  · have e1 : layF n.kind = 101 := by rw [h.1]; rfl
    have e2 : tailI n = [] := by simp [tailI, h.1]
    rw [e1, e2]; exact lay0 n m hm
  · have e1 : layF n.kind = 107 := by rw [h.1]; rfl
    have e2 : tailI n = n.size :: wordsE n.map := by simp [tailI, h.1]
    rw [e1, e2]; exact lay1 n m hm (mapOk_some h.2.2.2.2.2.2) h.2.2.2.2.1 h.2.2.2.2.2.1
  · have e1 : layF n.kind = 115 := by rw [h.1]; rfl
    have e2 : tailI n = [0, n.root, n.parent] := by simp [tailI, h.1]
    rw [e1, e2]; exact lay2 n m hm (by omega) (by omega) (by omega) (by omega)
  · have e1 : layF n.kind = 120 := by rw [h.1]; rfl
    have e2 : tailI n = (n.target.size : Int) :: layM n.target.data.toList := by simp [tailI, h.1]
    rw [e1, e2]; exact lay3 n m hm h.2.2.2.2.2.1 h.2.2.2.2.2.2.1
theorem kindA_lay (k : Int) : ∃ f1 f2 f4, kindA k = .agg [.fn f1 [], .fn f2 [], .fn (layF k) [], .fn f4 []] := by
  unfold kindA layF
  by_cases h1 : k = 1
  · simp only [h1, if_true]; exact ⟨_, _, _, rfl⟩
  by_cases h2 : k = 2
  · simp only [h2, if_true, show ¬ (2 : Int) = 1 by decide, if_false]; exact ⟨_, _, _, rfl⟩
  by_cases h3 : k = 3
  · simp only [h3, if_true, show ¬ (3 : Int) = 1 by decide, show ¬ (3 : Int) = 2 by decide, if_false]; exact ⟨_, _, _, rfl⟩
  simp only [h1, h2, h3, if_false]; exact ⟨_, _, _, rfl⟩
theorem layF_lent (k : Int) : (cbL tab).lent (layF k) = false := by
  unfold layF
  split
  · rfl
  · split
    · rfl
    · split <;> rfl
theorem words_px (n : Ino) (m : AV) (hm : MapR m n.map) (hn : n.map.length ≤ 1000) (H : Heap) : pcx (cbL tab) 37 [inoA n m] H = some (.plain (wordsV n)) := by
  refine pcx_N rfl (pc_wp (fi := c37) rfl ?_ (by simp [c37]) (by decide) ?_)
  · simp only [pcOn, List.map_cons, List.map_nil, hfL, hf_lend_sl, hf_lend_int, hf_lend_bool, hf_lend_str, hfL_append, Bool.and_self, Bool.and_true, Bool.true_and, c37, lend_inoA hm, hf_inoA hm]
  unfold c37
  rw [List.map_cons, List.map_nil, lend_inoA hm]
  have m1 := hm.one.1
  have m2 := hm.one.2
  have r := fun H => right_px n m hm hn H
  by_cases h : okI n
  case neg =>
    rw [rightR_no h] at r
    rw [wordsV_no h]
    unfold pan240 at r
    simp only [inoA] at r ⊢
    simp (disch := omega) only [wk, avalE, aactE, evPE, boundE, asNat, bv_seql cellsEq_ii, bv_sneqd cellsEq_ii, readC, allOne, fillL, resE, tupled, ↓reduceIte, Nat.reduceEqDiff, Int.reduceEq, Int.reduceLT, Int.reduceLE, Nat.reduceAdd, Nat.reduceMul, Nat.reduceLT, Nat.reduceLeDiff, reduceCtorEq, m1, m2, r, List.append_nil]
    rw [ends_left_pan (caught_pan 2 _ _ _ _ _ _ _ (clear71 1 _ _ rfl) rfl)]
    simp (disch := omega) only [wk, avalE, aactE, evPE, boundE, asNat, bv_seql cellsEq_ii, bv_sneqd cellsEq_ii, readC, allOne, fillL, resE, tupled, ↓reduceIte, Nat.reduceEqDiff, Int.reduceEq, Int.reduceLT, Int.reduceLE, Nat.reduceAdd, Nat.reduceMul, Nat.reduceLT, Nat.reduceLeDiff, reduceCtorEq, purify, unownT, AV.hf, unown, hfL, Tk.hf]
  rw [rightR_ok h] at r
  rw [wordsV_ok h]
  obtain ⟨f1, f2, f4, hk⟩ := kindA_lay n.kind
  rw [hk] at r
  have hkk := okI_kind h
  have hlk := h.1
  have hlk2 := h.2.1
  have v1 : IntKind.u64.wrap n.kind = n.kind := wrap_u64 (by omega) (by omega)
  have v2 : IntKind.u64.wrap n.links = n.links := wrap_u64 (by omega) (by omega)
  have ww := fun H => w824 n.kind n.links hkk.1 (by omega) hlk (by omega) H
  have em : n.kind % 256 + 256 * n.links = n.kind + 256 * n.links := by omega
  rw [em] at ww
  have z16 : repL 16 [AV.int .u64 0] = encs u64A (List.replicate 16 0) := rfl
  have s16 : List.drop 1 (encs u64A (List.replicate 16 0)) = encs u64A (List.replicate 15 0) := rfl
  have l16 : (encs u64A (List.replicate 16 0)).length = 16 := rfl
  have i16 : (0 : Int) < ((16 : Nat) : Int) := by decide
  have mn : madeN 1 8 [AV.int .u64 0] (.int .i64 16) (.int .i64 16) = some 16 := rfl
  obtain ⟨p1, H2, p2, p3, p4, p5⟩ := lay_of n m hm h 4 ((n.kind + 256 * n.links) :: List.replicate 15 0) [.cells (inoC n m), .cells [.msl 1 4 0 16], .cells [.int .i64 0], .cells [.fn f1 [], .fn f2 [], .fn (layF n.kind) [], .fn f4 []], .cells (AV.int .u64 (n.kind + 256 * n.links) :: encs u64A (List.replicate 15 0))] rfl rfl
  rw [put_words h] at p3
  have q1 : H2[1]? = some (.cells [.msl 1 4 0 16]) := by rw [p5 1 (by decide) (by simp)]; rfl
  have q2 : H2[2]? = some (.cells [.int .i64 0]) := by rw [p5 2 (by decide) (by simp)]; rfl
  have h5 : 5 ≤ H2.length := p4
  have lf := layF_lent n.kind
  unfold inoC at p1 p2
  simp only [inoA] at r p1 p2 ⊢
  have i0 : (0 : Int).toNat = 0 := rfl
  have q1s : ∀ A, ((H2.set 1 A).set 2 (.cells [.int .i64 0]))[1]? = some A := fun A => by rw [List.getElem?_set_ne (by decide), List.getElem?_set_self (by omega)]
  have q2s : ∀ A, (H2.set 1 A)[2]? = some (.cells [.int .i64 0]) := fun A => by rw [List.getElem?_set_ne (by decide)]; exact q2
  have q3s : ∀ A B, ((H2.set 1 A).set 2 B)[2]? = some B := fun A B => List.getElem?_set_self (by rw [List.length_set]; omega)
  have q4s : ∀ A B, ((H2.set 1 A).set 2 B)[4]? = some (.cells (encs u64A (wordsI n))) := fun A B => by rw [List.getElem?_set_ne (by decide), List.getElem?_set_ne (by decide)]; exact p3
  have w16 := wordsI_len h
  have pf : ∀ A B, purify (some (.ret (.tup [.msl 1 4 0 16, .int .i64 0]), (H2.set 1 A).set 2 B)) = some (.plain (.tup [.sl 1 16 (encs u64A (wordsI n)) .ro, .int .i64 0])) := by
    intro A B
    have c : 0 + 16 * 1 ≤ (encs u64A (wordsI n)).length ∧ hfL (encs u64A (wordsI n)) = true ∧ (AV.int .i64 0).hf = true := ⟨by rw [lenU, w16]; decide, hf_u64A _, rfl⟩
    have t : List.take (16 * 1) (List.drop 0 (encs u64A (wordsI n))) = encs u64A (wordsI n) := by rw [List.drop_zero, List.take_of_length_le (by rw [lenU, w16]; decide)]
    simp only [purify, q4s, if_pos c, t]
  simp (disch := omega) only [wk, avalE, aactE, evPE, boundE, asNat, bv_seql cellsEq_ii, bv_sneqd cellsEq_ii, readC, allOne, fillL, resE, tupled, ↓reduceIte, Nat.reduceEqDiff, Int.reduceEq, Int.reduceLT, Int.reduceLE, Nat.reduceAdd, Nat.reduceMul, Nat.reduceLT, Nat.reduceLeDiff, reduceCtorEq, m1, m2, r, List.append_nil, mn, z16, l16, i16, i0, v1, v2, ww, s16, p1, p2, runE_none lf, q1, q2, q2s]
  rw [ends_left_ret (caught_ret _ _ _ _)]
  simp (disch := omega) only [wk, avalE, aactE, evPE, boundE, asNat, bv_seql cellsEq_ii, bv_sneqd cellsEq_ii, readC, allOne, fillL, resE, tupled, ↓reduceIte, Nat.reduceEqDiff, Int.reduceEq, Int.reduceLT, Int.reduceLE, Nat.reduceAdd, Nat.reduceMul, Nat.reduceLT, Nat.reduceLeDiff, reduceCtorEq, q1s, q3s, pf]
end Go.Proofs.Ytncmflmjlocgiaa
