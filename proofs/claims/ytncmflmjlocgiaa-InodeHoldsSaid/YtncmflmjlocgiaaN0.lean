/- THE WALKS OF WORDS OF BYTES. No condition but those stated. -/
import Derived.Test.YtncmflmjlocgiaaN5
set_option linter.unusedSimpArgs false
set_option linter.unusedVariables false
set_option linter.unusedSectionVars false
namespace Go.Proofs.Ytncmflmjlocgiaa
open Go Go.Am Go.Rec Go.Ino
set_option maxHeartbeats 2000000
set_option maxRecDepth 10000
theorem tdrop (q : List UInt8) (b : UInt8) (r : List UInt8) : List.drop (q.length * 1) (encs byA (q ++ b :: r)) = .int .u8 (b.toNat : Nat) :: encs byA r := by
  rw [drop_pre, encs_cons]; rfl
theorem word_px (l : List UInt8) (tk : Tk) (H : Heap) (hn : l.length ≤ 1000) : pcx (cbL tab) 85 [.sl 1 l.length (encs byA l) tk] H = some (.plain (.int .u64 (wordM (l.take 8)))) := by
  obtain ⟨u1, e1, f1⟩ := lend_sl 1 l.length (encs byA l) tk
  refine pcx_N rfl (pc_wp (fi := c85) rfl ?_ (by simp [c85]) (by decide) ?_)
  · simp only [pcOn, List.map_cons, List.map_nil, hfL, hf_lend_sl, hf_lend_int, hf_lend_bool, hf_lend_str, hfL_append, Bool.and_self, Bool.and_true, Bool.true_and, c85, hf_byA]
  unfold c85
  rw [List.map_cons, List.map_nil, e1]
  have hq : (l.take 8).length = min 8 l.length := List.length_take
  have e : (if (l.length : Int) < 8 then (l.length : Int) else 8) = ((l.take 8).length : Int) := by split <;> omega
  have ll : l = l.take 8 ++ l.drop 8 := (List.take_append_drop 8 l).symm
  have hw8 := wordM_u64 (l := l.take 8) (by omega)
  simp (disch := omega) only [wk, avalE, aactE, evPE, boundE, asNat, bv_seql cellsEq_ii, bv_sneqd cellsEq_ii, readC, allOne, fillL, resE, tupled, ↓reduceIte, Nat.reduceEqDiff, Int.reduceEq, Int.reduceLT, Int.reduceLE, Nat.reduceAdd, Nat.reduceMul, Nat.reduceLT, Nat.reduceLeDiff, reduceCtorEq, e]
  refine loop_ind (fun (x : List UInt8 × List UInt8) E df H => l.take 8 = x.1 ++ x.2 ∧ E 0 = .sl 1 l.length (encs byA l) u1 ∧ E 3 = .int .u64 (wordM x.2) ∧ E 4 = .int .i64 ((x.1.length : Int) - 1) ∧ df = [] ∧ H = [])
    (fun x => x.1.length) (l.take 8, []) (by decide) (.inl rfl) ⟨by simp, rfl, rfl, rfl, rfl, rfl⟩ ?_
  intro ⟨pre, suf⟩ E df H ih hP
  obtain ⟨a1, E0, E3, E4, hdf, hH⟩ := hP
  dsimp only at a1 E3 E4
  subst hdf hH
  have hq2 := hq
  rw [a1, List.length_append] at hq2
  rcases List.eq_nil_or_concat pre with rfl | ⟨q, b, rfl⟩
  · have n0 : ¬ (0 : Int) ≤ ((([] : List UInt8).length : Nat) : Int) - 1 := by simp
    rw [List.nil_append] at a1
    rw [← a1] at E3
    simp (disch := omega) only [wk, avalE, aactE, evPE, boundE, asNat, bv_seql cellsEq_ii, bv_sneqd cellsEq_ii, readC, allOne, fillL, resE, tupled, ↓reduceIte, Nat.reduceEqDiff, Int.reduceEq, Int.reduceLT, Int.reduceLE, Nat.reduceAdd, Nat.reduceMul, Nat.reduceLT, Nat.reduceLeDiff, reduceCtorEq, E0, E3, E4, n0, purify, unownT, AV.hf]
  · rw [List.concat_eq_append] at *
    simp only [List.length_append, List.length_singleton] at hq2 E4
    have i1 : ((q.length + 1 : Nat) : Int) - 1 = (q.length : Int) := by omega
    rw [i1] at E4
    have n0 : (0 : Int) ≤ (q.length : Int) := by omega
    have d : List.drop (q.length * 1) (encs byA l) = .int .u8 (b.toNat : Nat) :: encs byA (suf ++ l.drop 8) := by
      have : l = q ++ b :: (suf ++ l.drop 8) := by
        have := ll; rw [a1] at this; simpa using this
      conv => lhs; rw [this]
      exact tdrop _ _ _
    rw [Nat.mul_one] at d
    have hb := u8_lt b
    have hb0 : (0 : Int) ≤ (b.toNat : Int) := by omega
    have w0 := wordM_nonneg suf
    have w1 : (b.toNat : Int) + 256 * wordM suf < 18446744073709551616 := wordM_u64 (l := b :: suf) (by simp; omega)
    have ln : (q.length : Int) < (l.length : Int) := by omega
    simp (disch := omega) only [wk, avalE, aactE, evPE, boundE, asNat, bv_seql cellsEq_ii, bv_sneqd cellsEq_ii, readC, allOne, fillL, resE, tupled, ↓reduceIte, Nat.reduceEqDiff, Int.reduceEq, Int.reduceLT, Int.reduceLE, Nat.reduceAdd, Nat.reduceMul, Nat.reduceLT, Nat.reduceLeDiff, reduceCtorEq, E0, E3, E4, n0, d, ln]
    refine ih (q, b :: suf) _ _ _ (by simp) ?_
    exact ⟨by simp [a1], by simp only [en, ↓reduceIte, Nat.reduceEqDiff, E0], by simp only [en, ↓reduceIte, Nat.reduceEqDiff, wordM, Int.add_comm], by simp only [en, ↓reduceIte, Nat.reduceEqDiff], rfl, rfl⟩
theorem lay_step (l : List UInt8) (k : Nat) (h : 8 * k < l.length) : layM (l.take (8 * (k + 1))) = layM (l.take (8 * k)) ++ [wordM ((l.drop (8 * k)).take 8)] := by
  have e : 8 * (k + 1) = 8 * k + 8 := by omega
  rw [e, List.take_add, layM_append _ k _ (by rw [List.length_take]; omega)]
  have h0 : (l.drop (8 * k)).take 8 ≠ [] := by
    intro e
    have := congrArg List.length e
    rw [List.length_take, List.length_drop, List.length_nil] at this
    omega
  rw [layM_short h0 (by rw [List.length_take]; omega)]
theorem rlay_px (l : List UInt8) (s : Nat) (tk : Tk) (H : Heap) (hn : l.length ≤ 1000) (hs : s = 1) : pcx (cbL tab) 50 [.sl s l.length (encs byA l) tk] H = some (prRow 1 u64A (layM l)) := by
  subst hs
  obtain ⟨u1, e1, f1⟩ := lend_sl 1 l.length (encs byA l) tk
  refine pcx_N rfl (pc_wp (fi := c50) rfl ?_ (by simp [c50]) (by decide) ?_)
  · simp only [pcOn, List.map_cons, List.map_nil, hfL, hf_lend_sl, hf_lend_int, hf_lend_bool, hf_lend_str, hfL_append, Bool.and_self, Bool.and_true, Bool.true_and, c50, hf_byA]
  unfold c50
  rw [List.map_cons, List.map_nil, e1]
  simp (disch := omega) only [wk, avalE, aactE, evPE, boundE, asNat, bv_seql cellsEq_ii, bv_sneqd cellsEq_ii, readC, allOne, fillL, resE, tupled, ↓reduceIte, Nat.reduceEqDiff, Int.reduceEq, Int.reduceLT, Int.reduceLE, Nat.reduceAdd, Nat.reduceMul, Nat.reduceLT, Nat.reduceLeDiff, reduceCtorEq]
  refine loop_ind (fun (k : Nat) E df H => E 4 = .int .i64 ((8 * k : Nat) : Int) ∧ E 0 = .sl 1 l.length (encs byA l) u1 ∧ Own H 1 (E 3) (layM (l.take (8 * k))).length (encs u64A (layM (l.take (8 * k)))) ∧ (∀ s n c, E 3 ≠ .sl s n c .e) ∧ 8 * k ≤ l.length + 7 ∧ df = [])
    (fun k => l.length + 8 - 8 * k) 0 (by decide) (.inl rfl) ⟨rfl, rfl, by rw [Nat.mul_zero, List.take_zero, layM_nil]; exact .inl ⟨.inl rfl, rfl, rfl⟩, (by intro s n c h; cases h), by omega, rfl⟩ ?_
  intro k E df H ih hP
  obtain ⟨E4, E0, ho, hne, hk, hdf⟩ := hP
  subst hdf
  by_cases hlt : 8 * k < l.length
  case neg =>
    rw [List.take_of_length_le (by omega)] at ho
    have n1 : ¬ ((8 * k : Nat) : Int) < (l.length : Int) := by omega
    simp (disch := omega) only [wk, avalE, aactE, evPE, boundE, asNat, bv_seql cellsEq_ii, bv_sneqd cellsEq_ii, readC, allOne, fillL, resE, tupled, ↓reduceIte, Nat.reduceEqDiff, Int.reduceEq, Int.reduceLT, Int.reduceLE, Nat.reduceAdd, Nat.reduceMul, Nat.reduceLT, Nat.reduceLeDiff, reduceCtorEq, E0, E4, n1, purify_row (fun _ => rfl) ho (fun _ => hne)]
  case pos =>
    have w1 : ∀ tk H, pcx (cbL tab) 85 [.sl 1 (l.length - 8 * k) (encs byA (l.drop (8 * k))) tk] H = some (.plain (.int .u64 (wordM ((l.drop (8 * k)).take 8)))) := fun tk H => by
      have := word_px (l.drop (8 * k)) tk H (by rw [List.length_drop]; omega)
      rw [List.length_drop] at this
      exact this
    have hd : List.drop (8 * k) (encs byA l) = encs byA (l.drop (8 * k)) := by
      have := encs_drop (f := byA) l (8 * k)
      rw [Nat.mul_one] at this
      exact this
    have hsl : (if 8 * k = 0 then AV.sl 1 l.length (encs byA l) u1 else .sl 1 (l.length - 8 * k) (List.drop (8 * k) (encs byA l)) .ro) = .sl 1 (l.length - 8 * k) (encs byA (l.drop (8 * k))) (if 8 * k = 0 then u1 else .ro) := by
      split
      · rename_i h0; rw [h0]; rfl
      · rw [hd]
    have enl : (encs byA l).length = l.length := by rw [encs_length (k := 1), Nat.mul_one]
    have hle : 8 * k ≤ l.length := by omega
    have n1 : ((8 * k : Nat) : Int) < (l.length : Int) := by omega
    have ll : (layM (l.take (8 * k))).length ≤ 1000 := by rw [layM_len, List.length_take]; omega
    simp (disch := omega) only [wk, avalE, aactE, evPE, boundE, asNat, bv_seql cellsEq_ii, bv_sneqd cellsEq_ii, readC, allOne, fillL, resE, tupled, ↓reduceIte, Nat.reduceEqDiff, Int.reduceEq, Int.reduceLT, Int.reduceLE, Nat.reduceAdd, Nat.reduceMul, Nat.reduceLT, Nat.reduceLeDiff, reduceCtorEq, E0, E4, n1, enl, hle, hsl, w1, Nat.le_refl, and_true]
    refine runX_app ho (by omega) (by omega) (by omega) (by omega) rfl rfl (fun H1 q1 q2 q3 => ?_)
    simp (disch := omega) only [wk, avalE, aactE, evPE, boundE, asNat, bv_seql cellsEq_ii, bv_sneqd cellsEq_ii, readC, allOne, fillL, resE, tupled, ↓reduceIte, Nat.reduceEqDiff, Int.reduceEq, Int.reduceLT, Int.reduceLE, Nat.reduceAdd, Nat.reduceMul, Nat.reduceLT, Nat.reduceLeDiff, reduceCtorEq, E4]
    refine ih (k + 1) _ _ _ (by omega) ?_
    refine ⟨?_, by simp only [en, ↓reduceIte, Nat.reduceEqDiff, E0], ?_, ?_, by omega, rfl⟩
    · have : ((8 * k : Nat) : Int) + 8 = ((8 * (k + 1) : Nat) : Int) := by omega
      simp only [en, ↓reduceIte, Nat.reduceEqDiff, this]
    · have e : encs u64A (layM (l.take (8 * k))) ++ [.int .u64 (wordM ((l.drop (8 * k)).take 8))] = encs u64A (layM (l.take (8 * (k + 1)))) := by
        rw [lay_step l k hlt, encs_append]; rfl
      have e2 : (layM (l.take (8 * k))).length + 1 = (layM (l.take (8 * (k + 1)))).length := by
        rw [lay_step l k hlt, List.length_append]; rfl
      rw [e, e2] at q1
      simp only [en, ↓reduceIte, Nat.reduceEqDiff]
      rw [e, e2]
      exact q1
    · simp only [en, ↓reduceIte, Nat.reduceEqDiff]
      intro s n c h
      cases h
/-- A row in memory. -/
def RowAt (H : Heap) (v : AV) (l : List Int) : Prop := (l = [] ∧ v = .sl 0 0 [] .z) ∨ (l ≠ [] ∧ ∃ id, v = .rsl 1 id l.length ∧ H[id]? = some (.cells (encs u64A l)))
theorem appR_row {H : Heap} {v : AV} {l : List Int} (h : RowAt H v l) (hn : l.length ≤ 1000) :
    ∃ id H', appR 1 8 v (.sl 1 1 [.int .u64 0] .ro) H = some (.val (.rsl 1 id (l.length + 1)), H') ∧ H'[id]? = some (.cells (encs u64A (l ++ [0]))) := by
  rcases h with ⟨rfl, rfl⟩ | ⟨hne, id, rfl, hid⟩
  · refine ⟨H.length, H ++ [.cells [.int .u64 0]], ?_, by simp [encs, u64A]⟩
    simp [appR, allOne, AV.one]
  · refine ⟨H.length, H.set id .dead ++ [.cells (encs u64A l ++ [.int .u64 0])], ?_, ?_⟩
    · have h1 : (l.length + 1) * 8 ≤ 70368744177664 := by omega
      have h2 : l.length + 1 ≤ 70368744177664 := by omega
      simp [appR, allOne, AV.one, hid, lenU, one_u64A, h1, h2]
    · rw [encs_append]
      have : (H.set id .dead).length = H.length := by simp
      rw [List.getElem?_append_right (by omega), this, Nat.sub_self]
      rfl
theorem getE (init : List Int) (last : Int) : (encs u64A (init ++ [last]))[init.length]? = some (.int .u64 last) := by
  rw [encs_append, List.getElem?_append_right (by rw [lenU]; exact Nat.le_refl _), lenU, Nat.sub_self]; rfl
theorem setE (init : List Int) (last v : Int) : List.take init.length (encs u64A (init ++ [last])) ++ [AV.int .u64 v] ++ List.drop (init.length + 1) (encs u64A (init ++ [last])) = encs u64A (init ++ [v]) := by
  rw [encs_append, encs_append, List.take_append_of_le_length (by rw [lenU]; exact Nat.le_refl _), List.take_of_length_le (by rw [lenU]; exact Nat.le_refl _), List.drop_of_length_le (by rw [List.length_append, lenU]; exact Nat.le_refl _), List.append_nil]
  rfl
theorem lay_px (l : List UInt8) (s : Nat) (tk : Tk) (H : Heap) (hn : l.length ≤ 1000) (hs : s = 1) : pcx (cbL tab) 49 [.sl s l.length (encs byA l) tk] H = some (prRow 1 u64A (layM l)) := by
  subst hs
  obtain ⟨u1, e1, f1⟩ := lend_sl 1 l.length (encs byA l) tk
  refine pcx_N rfl (pc_wp (fi := c49) rfl ?_ (by simp [c49]) (by decide) ?_)
  · simp only [pcOn, List.map_cons, List.map_nil, hfL, hf_lend_sl, hf_lend_int, hf_lend_bool, hf_lend_str, hfL_append, Bool.and_self, Bool.and_true, Bool.true_and, c49, hf_byA]
  unfold c49
  rw [List.map_cons, List.map_nil, e1]
  simp (disch := omega) only [wk, avalE, aactE, evPE, boundE, asNat, bv_seql cellsEq_ii, bv_sneqd cellsEq_ii, readC, allOne, fillL, resE, tupled, ↓reduceIte, Nat.reduceEqDiff, Int.reduceEq, Int.reduceLT, Int.reduceLE, Nat.reduceAdd, Nat.reduceMul, Nat.reduceLT, Nat.reduceLeDiff, reduceCtorEq]
  refine loop_ind (fun (x : List UInt8 × List UInt8) E df H => l = x.1 ++ x.2 ∧ E 6 = .sl 1 l.length (encs byA l) u1 ∧ E 7 = .int .i64 (l.length : Nat) ∧ E 8 = .int .i64 (x.1.length : Nat) ∧ RowAt H (E 3) (layM x.1) ∧ df = [])
    (fun x => x.2.length) ([], l) (by decide) (.inl rfl) ⟨rfl, rfl, rfl, rfl, by rw [layM_nil]; exact .inl ⟨rfl, rfl⟩, rfl⟩ ?_
  intro ⟨pre, suf⟩ E df H ih hP
  obtain ⟨a1, E6, E7, E8, ho, hdf⟩ := hP
  dsimp only at a1 E8 ho
  subst hdf
  have hl : l.length = pre.length + suf.length := by rw [a1, List.length_append]
  cases suf with
  | nil =>
    rw [List.append_nil] at a1
    subst a1
    have hp : ∀ v, RowAt H v (layM l) → purify (some (.ret v, H)) = some (prRow 1 u64A (layM l)) := by
      intro v hv
      rcases hv with ⟨e, rfl⟩ | ⟨hne, id, rfl, hid⟩
      · rw [e]; rfl
      · have h1 : (layM l).isEmpty = false := by cases h : layM l with
          | nil => exact absurd h hne
          | cons _ _ => rfl
        have h2 : (layM l).length ≠ 0 := fun h => hne (List.length_eq_zero_iff.1 h)
        simp only [purify, hid, prRow, h1, lenU, Nat.mul_one, hf_u64A, Bool.false_eq_true, if_false]
        rw [if_pos ⟨trivial, h2, trivial⟩]
    simp (disch := omega) only [wk, avalE, aactE, evPE, boundE, asNat, bv_seql cellsEq_ii, bv_sneqd cellsEq_ii, readC, allOne, fillL, resE, tupled, ↓reduceIte, Nat.reduceEqDiff, Int.reduceEq, Int.reduceLT, Int.reduceLE, Nat.reduceAdd, Nat.reduceMul, Nat.reduceLT, Nat.reduceLeDiff, reduceCtorEq, E6, E7, E8, hp _ ho]
  | cons b r =>
    simp only [List.length_cons] at hl
    obtain ⟨init, last, s1, s2, s3, s4, s5⟩ := layM_snoc pre b
    have d : List.drop pre.length (encs byA l) = .int .u8 (b.toNat : Nat) :: encs byA r := by
      have := tdrop pre b r
      rw [Nat.mul_one, ← a1] at this
      exact this
    have hb := u8_lt b
    have n1 : (pre.length : Int) < (l.length : Int) := by omega
    have cv : IntKind.u64.wrap (b.toNat : Int) = (b.toNat : Int) := wrap_u64 (by omega) (by omega)
    have hm8 : pre.length % 8 < 8 := Nat.mod_lt _ (by decide)
    have emod : (pre.length : Int) % 8 = ((pre.length % 8 : Nat) : Int) := by omega
    have ediv : (pre.length : Int) / 8 = (init.length : Nat) := by rw [s1]; omega
    have pw : (2 : Int) ^ (8 * ((pre.length % 8 : Nat) : Int)).toNat = 256 ^ (pre.length % 8) := by
      have : (8 * ((pre.length % 8 : Nat) : Int)).toNat = 8 * (pre.length % 8) := by omega
      rw [this, Int.pow_mul]
      rfl
    have pw0 : (0 : Int) ≤ (b.toNat : Int) * 256 ^ (pre.length % 8) := Int.mul_nonneg (by omega) (Int.pow_nonneg (by decide))
    have pl : last + (b.toNat : Int) * 256 ^ (pre.length % 8) < 18446744073709551616 := by
      have h1 : last + (b.toNat : Int) * 256 ^ (pre.length % 8) < 256 ^ (pre.length % 8 + 1) := by
        rw [Int.pow_succ]
        have h3 : (b.toNat : Int) * 256 ^ (pre.length % 8) ≤ 255 * 256 ^ (pre.length % 8) := Int.mul_le_mul_of_nonneg_right (by omega) (Int.pow_nonneg (by decide))
        omega
      exact Int.lt_of_lt_of_le h1 (pow_le8 (by omega))
    have sh := fun xo yo ek => u64_shl (xo := xo) (yo := yo) (ek := ek) (a := (b.toNat : Int)) (b := 8 * ((pre.length % 8 : Nat) : Int)) (k := .i64) (by omega) (by omega) (by rw [pw]; exact pw0) (by rw [pw]; omega)
    rw [pw] at sh
    have pw2 : (2 : Int) ^ (8 * (pre.length % 8)) = 256 ^ (pre.length % 8) := by rw [Int.pow_mul]; rfl
    have sor := fun xo yo ek => u64_orE (xo := xo) (yo := yo) (ek := ek) (a := last) (m := (b.toNat : Int)) (8 * (pre.length % 8)) s2 (by rw [pw2]; exact s3) (by omega) (by rw [pw2]; exact pl) (by rw [pw2]; exact pw0)
    rw [pw2] at sor
    have li : (init.length : Int) < ((init.length + 1 : Nat) : Int) := by omega
    have i0 : (0 : Int) ≤ (init.length : Int) := by omega
    by_cases h8 : pre.length % 8 = 0
    · rw [if_pos h8] at s5
      obtain ⟨s5, rfl⟩ := s5
      have h8' : ((pre.length % 8 : Nat) : Int) = 0 := by omega
      obtain ⟨id, H2, ap, hid⟩ := appR_row ho (by rw [layM_len]; omega)
      rw [s5] at ap hid
      have sid : id < H2.length := (List.getElem?_eq_some_iff.1 hid).1
      rw [h8'] at sh
      simp (disch := omega) only [wk, avalE, aactE, evPE, boundE, asNat, bv_seql cellsEq_ii, bv_sneqd cellsEq_ii, readC, allOne, fillL, resE, tupled, ↓reduceIte, Nat.reduceEqDiff, Int.reduceEq, Int.reduceLT, Int.reduceLE, Nat.reduceAdd, Nat.reduceMul, Nat.reduceLT, Nat.reduceLeDiff, reduceCtorEq, E6, E7, E8, n1, d, emod, ediv, h8', ap, s5, hid, getE, setE, sor, cv, sh, li, i0, lenU]
      refine ih (pre ++ [b], r) _ _ _ (by simp) ?_
      refine ⟨by simp [a1], by simp only [en, ↓reduceIte, Nat.reduceEqDiff, E6], by simp only [en, ↓reduceIte, Nat.reduceEqDiff, E7], by simp only [en, ↓reduceIte, Nat.reduceEqDiff], .inr ⟨by rw [s4]; simp, id, ?_, ?_⟩, rfl⟩
      · simp only [en, ↓reduceIte, Nat.reduceEqDiff, s4]
      · rw [s4]; exact List.getElem?_set_self sid
    · rw [if_neg h8] at s5
      have h8' : ¬ ((pre.length % 8 : Nat) : Int) = 0 := by omega
      rcases ho with ⟨e, _⟩ | ⟨hne, id, E3, hid⟩
      · rw [e] at s5; simp at s5
      · have sid : id < H.length := (List.getElem?_eq_some_iff.1 hid).1
        rw [s5] at E3 hid
        rw [List.length_append, List.length_singleton] at E3
        simp (disch := omega) only [wk, avalE, aactE, evPE, boundE, asNat, bv_seql cellsEq_ii, bv_sneqd cellsEq_ii, readC, allOne, fillL, resE, tupled, ↓reduceIte, Nat.reduceEqDiff, Int.reduceEq, Int.reduceLT, Int.reduceLE, Nat.reduceAdd, Nat.reduceMul, Nat.reduceLT, Nat.reduceLeDiff, reduceCtorEq, E3, E6, E7, E8, n1, d, emod, ediv, h8', hid, getE, setE, sor, cv, sh, li, i0, lenU]
        refine ih (pre ++ [b], r) _ _ _ (by simp) ?_
        refine ⟨by simp [a1], by simp only [en, ↓reduceIte, Nat.reduceEqDiff, E6], by simp only [en, ↓reduceIte, Nat.reduceEqDiff, E7], by simp only [en, ↓reduceIte, Nat.reduceEqDiff], .inr ⟨by rw [s4]; simp, id, ?_, ?_⟩, rfl⟩
        · simp only [en, ↓reduceIte, Nat.reduceEqDiff, s4, E3]
        · rw [s4]; exact List.getElem?_set_self sid
theorem wrap_u8 (x : Int) : IntKind.u8.wrap x = x % 256 := by simp [IntKind.wrap, IntKind.signed, IntKind.bits]
def byteOf (w : Int) (k : Nat) : UInt8 := UInt8.ofNat (w / 256 ^ k % 256).toNat
theorem byteOf_toNat (w : Int) (k : Nat) : ((byteOf w k).toNat : Int) = w / 256 ^ k % 256 := by
  have h1 : 0 ≤ w / 256 ^ k % 256 := Int.emod_nonneg _ (by decide)
  have h2 : w / 256 ^ k % 256 < 256 := Int.emod_lt_of_pos _ (by decide)
  unfold byteOf
  rw [UInt8.toNat_ofNat', Nat.mod_eq_of_lt (by show _ < 256; omega)]
  omega
theorem bytN_step (w : Int) (k : Nat) : bytN w (k + 1) = bytN w k ++ [byteOf w k] := bytN_snoc w k
theorem wdrop (pre : List Int) (w : Int) (r : List Int) (rest : List AV) : List.drop pre.length (encs u64A (pre ++ w :: r) ++ rest) = .int .u64 w :: (encs u64A r ++ rest) := by
  have := drop_pre2 (f := u64A) pre (w :: r) rest
  rw [Nat.mul_one] at this
  rw [this, encs_cons]; rfl
theorem rbytes_px (l : List Int) (rest : List AV) (s : Nat) (tk : Tk) (H : Heap) (hn : l.length ≤ 100) (hs : s = 1) (hr : hfL rest = true) (hw : ∀ w ∈ l, 0 ≤ w ∧ w < 18446744073709551616) :
    pcx (cbL tab) 56 [.sl s l.length (encs u64A l ++ rest) tk] H = some (prRow 1 byA (bytM l)) := by
  subst hs
  obtain ⟨u1, e1, f1⟩ := lend_sl 1 l.length (encs u64A l ++ rest) tk
  refine pcx_N rfl (pc_wp (fi := c56) rfl ?_ (by simp [c56]) (by decide) ?_)
  · simp only [pcOn, List.map_cons, List.map_nil, hfL, hf_lend_sl, hf_lend_int, hf_lend_bool, hf_lend_str, hfL_append, Bool.and_self, Bool.and_true, Bool.true_and, c56, hf_u64A, hr]
  unfold c56
  rw [List.map_cons, List.map_nil, e1]
  simp (disch := omega) only [wk, avalE, aactE, evPE, boundE, asNat, bv_seql cellsEq_ii, bv_sneqd cellsEq_ii, readC, allOne, fillL, resE, tupled, ↓reduceIte, Nat.reduceEqDiff, Int.reduceEq, Int.reduceLT, Int.reduceLE, Nat.reduceAdd, Nat.reduceMul, Nat.reduceLT, Nat.reduceLeDiff, reduceCtorEq]
  refine loop_ind (fun (x : List Int × List Int) E df H => l = x.1 ++ x.2 ∧ E 0 = .sl 1 l.length (encs u64A l ++ rest) u1 ∧ E 4 = .int .i64 (x.1.length : Nat) ∧ Own H 1 (E 3) (bytM x.1).length (encs byA (bytM x.1)) ∧ (∀ s n c, E 3 ≠ .sl s n c .e) ∧ df = [])
    (fun x => x.2.length) ([], l) (by decide) (.inl rfl) ⟨rfl, rfl, rfl, .inl ⟨.inl rfl, rfl, rfl⟩, (by intro s n c h; cases h), rfl⟩ ?_
  intro ⟨pre, suf⟩ E df H ih hP
  obtain ⟨a1, E0, E4, ho, hne, hdf⟩ := hP
  dsimp only at a1 E4 ho
  subst hdf
  have hl : l.length = pre.length + suf.length := by rw [a1, List.length_append]
  cases suf with
  | nil =>
    rw [List.append_nil] at a1
    subst a1
    simp (disch := omega) only [wk, avalE, aactE, evPE, boundE, asNat, bv_seql cellsEq_ii, bv_sneqd cellsEq_ii, readC, allOne, fillL, resE, tupled, ↓reduceIte, Nat.reduceEqDiff, Int.reduceEq, Int.reduceLT, Int.reduceLE, Nat.reduceAdd, Nat.reduceMul, Nat.reduceLT, Nat.reduceLeDiff, reduceCtorEq, E0, E4, purify_row (fun _ => rfl) ho (fun _ => hne)]
  | cons w r =>
    simp only [List.length_cons] at hl
    have d := wdrop pre w r rest
    rw [← a1] at d
    have hww := hw w (by rw [a1]; simp)
    have hbl := bytM_len pre
    simp (disch := omega) only [wk, avalE, aactE, evPE, boundE, asNat, bv_seql cellsEq_ii, bv_sneqd cellsEq_ii, readC, allOne, fillL, resE, tupled, ↓reduceIte, Nat.reduceEqDiff, Int.reduceEq, Int.reduceLT, Int.reduceLE, Nat.reduceAdd, Nat.reduceMul, Nat.reduceLT, Nat.reduceLeDiff, reduceCtorEq, E0, E4, d]
    refine loop_ind (fun (k : Nat) E df H => k ≤ 8 ∧ E 0 = .sl 1 l.length (encs u64A l ++ rest) u1 ∧ E 4 = .int .i64 (pre.length : Nat) ∧ E 5 = .int .u64 (w / 256 ^ k) ∧ E 6 = .int .i64 (k : Nat) ∧ Own H 1 (E 3) (bytM pre ++ bytN w k).length (encs byA (bytM pre ++ bytN w k)) ∧ (∀ s n c, E 3 ≠ .sl s n c .e) ∧ df = [])
      (fun k => 8 - k) 0 (by decide) (.inl rfl) ⟨by omega, by simp only [en, ↓reduceIte, Nat.reduceEqDiff, E0], by simp only [en, ↓reduceIte, Nat.reduceEqDiff, E4], by simp only [en, ↓reduceIte, Nat.reduceEqDiff, Int.pow_zero, Int.ediv_one], by simp only [en, ↓reduceIte, Nat.reduceEqDiff]; rfl, by simp only [en, ↓reduceIte, Nat.reduceEqDiff, bytN, List.append_nil]; exact ho, by simp only [en, ↓reduceIte, Nat.reduceEqDiff]; exact hne, rfl⟩ ?_
    clear ho hne E0 E4
    intro k E df H ih2 hP
    obtain ⟨hk, E0, E4, E5, E6, ho, hne, hdf⟩ := hP
    subst hdf
    by_cases hk8 : k = 8
    · subst hk8
      have i8 : ((8 : Nat) : Int) = 8 := rfl
      rw [i8] at E6
      simp (disch := omega) only [wk, avalE, aactE, evPE, boundE, asNat, bv_seql cellsEq_ii, bv_sneqd cellsEq_ii, readC, allOne, fillL, resE, tupled, ↓reduceIte, Nat.reduceEqDiff, Int.reduceEq, Int.reduceLT, Int.reduceLE, Nat.reduceAdd, Nat.reduceMul, Nat.reduceLT, Nat.reduceLeDiff, reduceCtorEq, E0, E4, E5, E6]
      refine ih (pre ++ [w], r) _ _ _ (by simp) ?_
      have e : bytM (pre ++ [w]) = bytM pre ++ bytN w 8 := by rw [bytM_append, bytM, bytM, List.append_nil]
      refine ⟨by simp [a1], by simp only [en, ↓reduceIte, Nat.reduceEqDiff, E0], by simp only [en, ↓reduceIte, Nat.reduceEqDiff, E4], ?_, by simp only [en, ↓reduceIte, Nat.reduceEqDiff]; exact hne, rfl⟩
      dsimp only
      rw [e]
      simp only [en, ↓reduceIte, Nat.reduceEqDiff]
      rw [List.length_append] at ho
      exact ho
    · have n8 : (k : Int) < 8 := by omega
      have w0 : 0 ≤ w / 256 ^ k := Int.ediv_nonneg hww.1 (Int.pow_nonneg (by decide))
      have m0 : 0 ≤ w / 256 ^ k % 256 := Int.emod_nonneg _ (by decide)
      have m1 : w / 256 ^ k % 256 < 256 := Int.emod_lt_of_pos _ (by decide)
      have cv : IntKind.u8.wrap (w / 256 ^ k % 256) = ((byteOf w k).toNat : Int) := by rw [wrap_u8, byteOf_toNat]; omega
      have lk : (bytM pre ++ bytN w k).length ≤ 808 := by rw [List.length_append, bytN_len, hbl]; omega
      simp (disch := omega) only [wk, avalE, aactE, evPE, boundE, asNat, bv_seql cellsEq_ii, bv_sneqd cellsEq_ii, readC, allOne, fillL, resE, tupled, ↓reduceIte, Nat.reduceEqDiff, Int.reduceEq, Int.reduceLT, Int.reduceLE, Nat.reduceAdd, Nat.reduceMul, Nat.reduceLT, Nat.reduceLeDiff, reduceCtorEq, E0, E4, E5, E6, n8, cv]
      refine runX_app ho (by omega) (by omega) (by omega) (by omega) rfl rfl (fun H1 q1 q2 q3 => ?_)
      simp (disch := omega) only [wk, avalE, aactE, evPE, boundE, asNat, bv_seql cellsEq_ii, bv_sneqd cellsEq_ii, readC, allOne, fillL, resE, tupled, ↓reduceIte, Nat.reduceEqDiff, Int.reduceEq, Int.reduceLT, Int.reduceLE, Nat.reduceAdd, Nat.reduceMul, Nat.reduceLT, Nat.reduceLeDiff, reduceCtorEq, E5, E6]
      refine ih2 (k + 1) _ _ _ (by omega) ?_
      have e : encs byA (bytM pre ++ bytN w k) ++ [.int .u8 ((byteOf w k).toNat : Nat)] = encs byA (bytM pre ++ bytN w (k + 1)) := by
        rw [bytN_step, ← List.append_assoc, encs_append (l := bytM pre ++ bytN w k)]; rfl
      have e2 : (bytM pre ++ bytN w k).length + 1 = (bytM pre ++ bytN w (k + 1)).length := by
        rw [List.length_append, List.length_append, bytN_len, bytN_len]; omega
      rw [e, e2] at q1
      have e3 : w / 256 ^ k / 256 = w / 256 ^ (k + 1) := by rw [Int.pow_succ, Int.ediv_ediv_of_nonneg (Int.pow_nonneg (by decide))]
      have e2' : (bytM pre).length + (bytN w k).length + 1 = (bytM pre ++ bytN w (k + 1)).length := by rw [← e2, List.length_append]
      have w2 : w / 256 ^ k < 18446744073709551616 := Int.lt_of_le_of_lt (Int.ediv_le_self _ hww.1) hww.2
      have e4 : IntKind.u64.wrap (w / 256 ^ (k + 1)) = w / 256 ^ (k + 1) := by
        rw [← e3]; exact wrap_u64 (by omega) (by omega)
      refine ⟨by omega, by simp only [en, ↓reduceIte, Nat.reduceEqDiff, E0], by simp only [en, ↓reduceIte, Nat.reduceEqDiff, E4], by simp only [en, ↓reduceIte, Nat.reduceEqDiff, e3, e4], by simp only [en, ↓reduceIte, Nat.reduceEqDiff], ?_, ?_, rfl⟩
      · simp only [upd_app, updD_some, updD_none, ↓reduceIte, Nat.reduceEqDiff, if_true, if_false]
        rw [e, e2']
        exact q1
      · simp only [en, ↓reduceIte, Nat.reduceEqDiff]
        intro s n c h
        cases h
theorem bput_ic (a b k : Nat) (w : Int) (l : List UInt8) (v : AV) (H : Heap) (hab : a ≠ b) (hk : k < 8) (ha : H[a]? = some (.cells [v])) (hb : H[b]? = some (.cells [.int .u64 w]))
    (ho : Own H 1 v l.length (encs byA l)) (hl : l.length ≤ 1000) :
    pcx (cbL tab) 90 [.int .i64 (k : Nat), .ptr a 0, .ptr b 0] H = none ∧ ∃ v' H', (cbL tab).ic 90 [.int .i64 (k : Nat), .ptr a 0, .ptr b 0] H = some (.ret (.tup []), H') ∧ H'[a]? = some (.cells [v']) ∧ H'[b]? = some (.cells [.int .u64 w]) ∧
      Own H' 1 v' (l ++ [byteOf w k]).length (encs byA (l ++ [byteOf w k])) ∧ (∀ s n c, v' ≠ .sl s n c .e) ∧ H.length ≤ H'.length := by
  refine ⟨pcx_none rfl (pc_none (fi := c90) rfl rfl), ?_⟩
  have : ∃ o H', (cbL tab).ic 90 [.int .i64 (k : Nat), .ptr a 0, .ptr b 0] H = some (o, H') ∧ (o = .ret (.tup []) ∧ ∃ v', H'[a]? = some (.cells [v']) ∧ H'[b]? = some (.cells [.int .u64 w]) ∧
      Own H' 1 v' (l ++ [byteOf w k]).length (encs byA (l ++ [byteOf w k])) ∧ (∀ s n c, v' ≠ .sl s n c .e) ∧ H.length ≤ H'.length) := by
    refine ic_wp (fi := c90) rfl rfl (by simp [c90]) (by decide) ?_
    unfold c90
    have sh := fun xo yo ek => u64_shr (xo := xo) (yo := yo) (ek := ek) (a := w) (b := 8 * (k : Int)) (k := .i64) (by omega) (by omega)
    have pw : (2 : Int) ^ (8 * (k : Int)).toNat = 256 ^ k := by
      have : (8 * (k : Int)).toNat = 8 * k := by omega
      rw [this, Int.pow_mul]; rfl
    rw [pw] at sh
    have cv : IntKind.u8.wrap (w / 256 ^ k) = ((byteOf w k).toNat : Int) := by rw [wrap_u8, byteOf_toNat]
    simp (disch := omega) only [wk, avalE, aactE, evPE, boundE, asNat, bv_seql cellsEq_ii, bv_sneqd cellsEq_ii, readC, allOne, fillL, resE, tupled, ↓reduceIte, Nat.reduceEqDiff, Int.reduceEq, Int.reduceLT, Int.reduceLE, Nat.reduceAdd, Nat.reduceMul, Nat.reduceLT, Nat.reduceLeDiff, reduceCtorEq, ha, hb, sh, cv]
    refine runX_app ho (by omega) (by omega) (by omega) (by omega) rfl rfl (fun H1 q1 q2 q3 => ?_)
    have ha1 := q2.cells ho rfl ha (by intro s h; cases h)
    have hb1 := q2.cells ho rfl hb (by intro s h; cases h)
    have la : a < H1.length := (List.getElem?_eq_some_iff.1 ha1).1
    simp (disch := omega) only [wk, avalE, aactE, evPE, boundE, asNat, bv_seql cellsEq_ii, bv_sneqd cellsEq_ii, readC, allOne, fillL, resE, tupled, ↓reduceIte, Nat.reduceEqDiff, Int.reduceEq, Int.reduceLT, Int.reduceLE, Nat.reduceAdd, Nat.reduceMul, Nat.reduceLT, Nat.reduceLeDiff, reduceCtorEq, ha1, List.append_nil]
    refine ⟨_, List.getElem?_set_self la, by rw [List.getElem?_set_ne hab]; exact hb1, ?_, (by intro s n c h; cases h), by rw [List.length_set]; omega⟩
    have e : encs byA l ++ [.int .u8 ((byteOf w k).toNat : Nat)] = encs byA (l ++ [byteOf w k]) := by rw [encs_append]; rfl
    rw [e] at q1 ⊢
    exact q1.set ha1 (by intro s h; cases h)
  obtain ⟨o, H', h1, rfl, v', h2, h3, h4, h5, h6⟩ := this
  exact ⟨v', H', h1, h2, h3, h4, h5, h6⟩
theorem blput : (cbL tab).lent 90 = false := rfl
theorem bytes_pc (l : List Int) (rest : List AV) (s : Nat) (tk : Tk) (hn : l.length ≤ 100) (hs : s = 1) (hr : hfL rest = true) (hw : ∀ w ∈ l, 0 ≤ w ∧ w < 18446744073709551616) (ht : tk.hf = true) :
    (cbL tab).pc 54 [.sl s l.length (encs u64A l ++ rest) tk] = some (prRow 1 byA (bytM l)) := by
  subst hs
  obtain ⟨u1, e1, f1⟩ := lend_sl 1 l.length (encs u64A l ++ rest) tk
  refine pc_wp (fi := c54) rfl ?_ (by simp [c54]) (by decide) ?_
  · simp only [pcOn, List.map_cons, List.map_nil, hfL, hf_lend_sl, hf_lend_int, hf_lend_bool, hf_lend_str, hfL_append, Bool.and_self, Bool.and_true, Bool.true_and, c54, hf_u64A, hr, AV.hf, ht]
  unfold c54
  rw [List.map_cons, List.map_nil, e1]
  simp (disch := omega) only [wk, avalE, aactE, evPE, boundE, asNat, bv_seql cellsEq_ii, bv_sneqd cellsEq_ii, readC, allOne, fillL, resE, tupled, ↓reduceIte, Nat.reduceEqDiff, Int.reduceEq, Int.reduceLT, Int.reduceLE, Nat.reduceAdd, Nat.reduceMul, Nat.reduceLT, Nat.reduceLeDiff, reduceCtorEq]
  refine loop_ind (fun (x : List Int × List Int) E df H => l = x.1 ++ x.2 ∧ E 8 = .sl 1 l.length (encs u64A l ++ rest) u1 ∧ E 9 = .int .i64 (l.length : Nat) ∧ E 10 = .int .i64 (x.1.length : Nat) ∧ E 3 = .ptr 0 0 ∧ (∃ v, H[0]? = some (.cells [v]) ∧ Own H 1 v (bytM x.1).length (encs byA (bytM x.1)) ∧ (∀ s n c, v ≠ .sl s n c .e)) ∧ df = [])
    (fun x => x.2.length) ([], l) (by decide) (.inl rfl) ⟨rfl, rfl, rfl, rfl, rfl, ⟨_, rfl, .inl ⟨.inl rfl, rfl, rfl⟩, (by intro s n c h; cases h)⟩, rfl⟩ ?_
  intro ⟨pre, suf⟩ E df H ih hP
  obtain ⟨a1, E8, E9, E10, E3, ⟨v, hv, ho, hne⟩, hdf⟩ := hP
  dsimp only at a1 E10 ho
  subst hdf
  have hl : l.length = pre.length + suf.length := by rw [a1, List.length_append]
  cases suf with
  | nil =>
    rw [List.append_nil] at a1
    subst a1
    simp (disch := omega) only [wk, avalE, aactE, evPE, boundE, asNat, bv_seql cellsEq_ii, bv_sneqd cellsEq_ii, readC, allOne, fillL, resE, tupled, ↓reduceIte, Nat.reduceEqDiff, Int.reduceEq, Int.reduceLT, Int.reduceLE, Nat.reduceAdd, Nat.reduceMul, Nat.reduceLT, Nat.reduceLeDiff, reduceCtorEq, E3, E8, E9, E10, hv, purify_row (fun _ => rfl) ho (fun _ => hne)]
  | cons w r =>
    simp only [List.length_cons] at hl
    have d := wdrop pre w r rest
    rw [← a1] at d
    have hww := hw w (by rw [a1]; simp)
    have hbl := bytM_len pre
    have n1 : (pre.length : Int) < (l.length : Int) := by omega
    have hne0 : 0 < H.length := (List.getElem?_eq_some_iff.1 hv).1
    have g1 : ∀ o : AObj, (H ++ [o])[H.length]? = some o := fun o => by simp
    have st : ∀ o q : AObj, (H ++ [o]).set H.length q = H ++ [q] := fun o q => by simp
    simp (disch := omega) only [wk, avalE, aactE, evPE, boundE, asNat, bv_seql cellsEq_ii, bv_sneqd cellsEq_ii, readC, allOne, fillL, resE, tupled, ↓reduceIte, Nat.reduceEqDiff, Int.reduceEq, Int.reduceLT, Int.reduceLE, Nat.reduceAdd, Nat.reduceMul, Nat.reduceLT, Nat.reduceLeDiff, reduceCtorEq, E3, E8, E9, E10, d, n1, g1, st]
    refine loop_ind (fun (k : Nat) E df H1 => k ≤ 8 ∧ E 8 = .sl 1 l.length (encs u64A l ++ rest) u1 ∧ E 9 = .int .i64 (l.length : Nat) ∧ E 10 = .int .i64 (pre.length : Nat) ∧ E 3 = .ptr 0 0 ∧ E 6 = .fn 90 [.ptr 0 0, .ptr H.length 0] ∧ E 15 = .int .i64 (k : Nat) ∧
        (∃ v, H1[0]? = some (.cells [v]) ∧ Own H1 1 v (bytM pre ++ bytN w k).length (encs byA (bytM pre ++ bytN w k)) ∧ (∀ s n c, v ≠ .sl s n c .e)) ∧ H1[H.length]? = some (.cells [.int .u64 w]) ∧ df = [])
      (fun k => 8 - k) 0 (by decide) (.inl rfl) ⟨by omega, by simp only [en, ↓reduceIte, Nat.reduceEqDiff, E8], by simp only [en, ↓reduceIte, Nat.reduceEqDiff, E9], by simp only [en, ↓reduceIte, Nat.reduceEqDiff, E10], by simp only [en, ↓reduceIte, Nat.reduceEqDiff, E3], by simp only [en, ↓reduceIte, Nat.reduceEqDiff, E3], by simp only [en, ↓reduceIte, Nat.reduceEqDiff]; rfl, ⟨v, by rw [List.getElem?_append_left hne0]; exact hv, ?_, hne⟩, by simp, rfl⟩ ?_
    · rw [bytN, List.append_nil]
      refine ho.kept (g := none) (fun i o h _ => ?_) (.inl rfl)
      rw [List.getElem?_append_left (List.getElem?_eq_some_iff.1 h).1]; exact h
    clear ho hne hv E3 E8 E9 E10
    intro k E df H1 ih2 hP
    obtain ⟨hk, E8, E9, E10, E3, E6, E15, ⟨v, hv, ho, hne⟩, hb, hdf⟩ := hP
    subst hdf
    by_cases hk8 : k = 8
    · subst hk8
      have i8 : ((8 : Nat) : Int) = 8 := rfl
      rw [i8] at E15
      simp (disch := omega) only [wk, avalE, aactE, evPE, boundE, asNat, bv_seql cellsEq_ii, bv_sneqd cellsEq_ii, readC, allOne, fillL, resE, tupled, ↓reduceIte, Nat.reduceEqDiff, Int.reduceEq, Int.reduceLT, Int.reduceLE, Nat.reduceAdd, Nat.reduceMul, Nat.reduceLT, Nat.reduceLeDiff, reduceCtorEq, E3, E6, E8, E9, E10, E15]
      refine ih (pre ++ [w], r) _ _ _ (by simp) ?_
      have e : bytM (pre ++ [w]) = bytM pre ++ bytN w 8 := by rw [bytM_append, bytM, bytM, List.append_nil]
      refine ⟨by simp [a1], by simp only [en, ↓reduceIte, Nat.reduceEqDiff, E8], by simp only [en, ↓reduceIte, Nat.reduceEqDiff, E9], by simp only [en, ↓reduceIte, Nat.reduceEqDiff], by simp only [en, ↓reduceIte, Nat.reduceEqDiff, E3], ⟨v, hv, ?_, hne⟩, rfl⟩
      dsimp only
      rw [e]
      exact ho
    · have n8 : (k : Int) < 8 := by omega
      have lk : (bytM pre ++ bytN w k).length ≤ 1000 := by rw [List.length_append, bytN_len, hbl]; omega
      obtain ⟨c1, v', H2, c2, c3, c4, c5, c6, c7⟩ := bput_ic 0 H.length k w (bytM pre ++ bytN w k) v H1 (by omega) (by omega) hv hb ho lk
      simp (disch := omega) only [wk, avalE, aactE, evPE, boundE, asNat, bv_seql cellsEq_ii, bv_sneqd cellsEq_ii, readC, allOne, fillL, resE, tupled, ↓reduceIte, Nat.reduceEqDiff, Int.reduceEq, Int.reduceLT, Int.reduceLE, Nat.reduceAdd, Nat.reduceMul, Nat.reduceLT, Nat.reduceLeDiff, reduceCtorEq, E3, E6, E8, E9, E10, E15, n8, c1, runE_none blput, c2]
      refine ih2 (k + 1) _ _ _ (by omega) ?_
      rw [List.append_assoc, ← bytN_step] at c5
      exact ⟨by omega, by simp only [en, ↓reduceIte, Nat.reduceEqDiff, E8], by simp only [en, ↓reduceIte, Nat.reduceEqDiff, E9], by simp only [en, ↓reduceIte, Nat.reduceEqDiff, E10], by simp only [en, ↓reduceIte, Nat.reduceEqDiff, E3], by simp only [en, ↓reduceIte, Nat.reduceEqDiff, E6], by simp only [en, ↓reduceIte, Nat.reduceEqDiff], ⟨v', c3, c5, c6⟩, c4, rfl⟩
theorem same_px (a b : List Int) (r1 r2 : List AV) (s1 s2 : Nat) (k1 k2 : Tk) (H : Heap) (ha : a.length ≤ 1000) (hb : b.length ≤ 1000) (z1 : a ≠ [] → s1 = 1) (z2 : b ≠ [] → s2 = 1) (h1 : hfL r1 = true) (h2 : hfL r2 = true) :
    pcx (cbL tab) 20 [.sl s1 a.length (encs u64A a ++ r1) k1, .sl s2 b.length (encs u64A b ++ r2) k2] H = some (.plain (.bool (decide (a = b)))) := by
  obtain ⟨u1, e1, f1⟩ := lend_sl s1 a.length (encs u64A a ++ r1) k1
  obtain ⟨u2, e2, f2⟩ := lend_sl s2 b.length (encs u64A b ++ r2) k2
  refine pcx_N rfl (pc_wp (fi := c20) rfl ?_ (by simp [c20]) (by decide) ?_)
  · simp only [pcOn, List.map_cons, List.map_nil, hfL, hf_lend_sl, hf_lend_int, hf_lend_bool, hf_lend_str, hfL_append, Bool.and_self, Bool.and_true, Bool.true_and, c20, hf_u64A, h1, h2]
  unfold c20
  rw [List.map_cons, List.map_cons, List.map_nil, e1, e2]
  by_cases hl : (a.length : Int) = (b.length : Int)
  case neg =>
    have : ¬ a = b := fun h => hl (by rw [h])
    simp (disch := omega) only [wk, avalE, aactE, evPE, boundE, asNat, bv_seql cellsEq_ii, bv_sneqd cellsEq_ii, readC, allOne, fillL, resE, tupled, ↓reduceIte, Nat.reduceEqDiff, Int.reduceEq, Int.reduceLT, Int.reduceLE, Nat.reduceAdd, Nat.reduceMul, Nat.reduceLT, Nat.reduceLeDiff, reduceCtorEq, hl, this, purify, unownT, AV.hf]
  have hl' : a.length = b.length := by omega
  simp (disch := omega) only [wk, avalE, aactE, evPE, boundE, asNat, bv_seql cellsEq_ii, bv_sneqd cellsEq_ii, readC, allOne, fillL, resE, tupled, ↓reduceIte, Nat.reduceEqDiff, Int.reduceEq, Int.reduceLT, Int.reduceLE, Nat.reduceAdd, Nat.reduceMul, Nat.reduceLT, Nat.reduceLeDiff, reduceCtorEq, hl]
  refine loop_ind (fun (x : List Int × List Int × List Int) E df H => a = x.1 ++ x.2.1 ∧ b = x.1 ++ x.2.2 ∧ E 0 = .sl s1 a.length (encs u64A a ++ r1) u1 ∧ E 1 = .sl s2 b.length (encs u64A b ++ r2) u2 ∧  E 5 = .int .i64 (x.1.length : Nat) ∧ df = [] ∧ H = [])
    (fun x => x.2.1.length) ([], a, b) (by decide) (.inl rfl) ⟨rfl, rfl, rfl, rfl,  rfl, rfl, rfl⟩ ?_
  intro ⟨pre, sa, sb⟩ E df H ih hP
  obtain ⟨a1, a2, E0, E1, E5, hdf, hH⟩ := hP
  dsimp only at a1 a2 E5
  subst hdf hH
  have la : a.length = pre.length + sa.length := by rw [a1, List.length_append]
  have lb : b.length = pre.length + sb.length := by rw [a2, List.length_append]
  cases sa with
  | nil =>
    cases sb with
    | nil =>
      have : a = b := by rw [a1, a2]
      simp only [List.length_nil, Nat.add_zero] at la lb
      simp (disch := omega) only [wk, avalE, aactE, evPE, boundE, asNat, bv_seql cellsEq_ii, bv_sneqd cellsEq_ii, readC, allOne, fillL, resE, tupled, ↓reduceIte, Nat.reduceEqDiff, Int.reduceEq, Int.reduceLT, Int.reduceLE, Nat.reduceAdd, Nat.reduceMul, Nat.reduceLT, Nat.reduceLeDiff, reduceCtorEq, E0, E1, E5, la, lb, this, purify, unownT, AV.hf]
    | cons y r => simp at la lb; omega
  | cons x r =>
    cases sb with
    | nil => simp at la lb; omega
    | cons y q =>
      simp only [List.length_cons] at la lb
      obtain rfl := z1 (by rw [a1]; simp)
      obtain rfl := z2 (by rw [a2]; simp)
      have d1 := wdrop pre x r r1
      have d2 := wdrop pre y q r2
      rw [← a1] at d1
      rw [← a2] at d2
      have n1 : (pre.length : Int) < (a.length : Int) := by omega
      have n2 : (pre.length : Int) < (b.length : Int) := by omega
      by_cases hxy : x = y
      · subst hxy
        simp (disch := omega) only [wk, avalE, aactE, evPE, boundE, asNat, bv_seql cellsEq_ii, bv_sneqd cellsEq_ii, readC, allOne, fillL, resE, tupled, ↓reduceIte, Nat.reduceEqDiff, Int.reduceEq, Int.reduceLT, Int.reduceLE, Nat.reduceAdd, Nat.reduceMul, Nat.reduceLT, Nat.reduceLeDiff, reduceCtorEq, E0, E1, E5, n1, n2, d1, d2]
        refine ih (pre ++ [x], r, q) _ _ _ (by simp) ?_
        exact ⟨by simp [a1], by simp [a2], by simp only [en, ↓reduceIte, Nat.reduceEqDiff, E0], by simp only [en, ↓reduceIte, Nat.reduceEqDiff, E1], by simp only [en, ↓reduceIte, Nat.reduceEqDiff], rfl, rfl⟩
      · have : ¬ a = b := by rw [a1, a2]; simp [hxy]
        simp (disch := omega) only [wk, avalE, aactE, evPE, boundE, asNat, bv_seql cellsEq_ii, bv_sneqd cellsEq_ii, readC, allOne, fillL, resE, tupled, ↓reduceIte, Nat.reduceEqDiff, Int.reduceEq, Int.reduceLT, Int.reduceLE, Nat.reduceAdd, Nat.reduceMul, Nat.reduceLT, Nat.reduceLeDiff, reduceCtorEq, E0, E1, E5, n1, n2, d1, d2, hxy, this, purify, unownT, AV.hf]
theorem equal_pc (a b : List Int) (r1 r2 : List AV) (s1 s2 : Nat) (k1 k2 : Tk) (ha : a.length ≤ 1000) (hb : b.length ≤ 1000) (z1 : a ≠ [] → s1 = 1) (z2 : b ≠ [] → s2 = 1) (h1 : hfL r1 = true) (h2 : hfL r2 = true) (t1 : k1.hf = true) (t2 : k2.hf = true) :
    (cbL tab).pc 55 [.sl s1 a.length (encs u64A a ++ r1) k1, .sl s2 b.length (encs u64A b ++ r2) k2] = some (.plain (.bool (decide (a = b)))) := by
  obtain ⟨u1, e1, f1⟩ := lend_sl s1 a.length (encs u64A a ++ r1) k1
  obtain ⟨u2, e2, f2⟩ := lend_sl s2 b.length (encs u64A b ++ r2) k2
  refine pc_wp (fi := c55) rfl ?_ (by simp [c55]) (by decide) ?_
  · simp only [pcOn, List.map_cons, List.map_nil, hfL, hf_lend_sl, hf_lend_int, hf_lend_bool, hf_lend_str, hfL_append, Bool.and_self, Bool.and_true, Bool.true_and, c55, hf_u64A, h1, h2, AV.hf, t1, t2]
  unfold c55
  rw [List.map_cons, List.map_cons, List.map_nil, e1, e2]
  by_cases hl : (a.length : Int) = (b.length : Int)
  case neg =>
    have : ¬ a = b := fun h => hl (by rw [h])
    simp (disch := omega) only [wk, avalE, aactE, evPE, boundE, asNat, bv_seql cellsEq_ii, bv_sneqd cellsEq_ii, readC, allOne, fillL, resE, tupled, ↓reduceIte, Nat.reduceEqDiff, Int.reduceEq, Int.reduceLT, Int.reduceLE, Nat.reduceAdd, Nat.reduceMul, Nat.reduceLT, Nat.reduceLeDiff, reduceCtorEq, hl, this, purify, unownT, AV.hf]
  have hl' : a.length = b.length := by omega
  simp (disch := omega) only [wk, avalE, aactE, evPE, boundE, asNat, bv_seql cellsEq_ii, bv_sneqd cellsEq_ii, readC, allOne, fillL, resE, tupled, ↓reduceIte, Nat.reduceEqDiff, Int.reduceEq, Int.reduceLT, Int.reduceLE, Nat.reduceAdd, Nat.reduceMul, Nat.reduceLT, Nat.reduceLeDiff, reduceCtorEq, hl]
  refine loop_ind (fun (x : List Int × List Int × List Int) E df H => a = x.1 ++ x.2.1 ∧ b = x.1 ++ x.2.2 ∧ E 0 = .sl s1 a.length (encs u64A a ++ r1) u1 ∧ E 1 = .sl s2 b.length (encs u64A b ++ r2) u2 ∧ E 12 = .int .i64 (b.length : Nat) ∧ E 13 = .int .i64 (x.1.length : Nat) ∧ df = [] ∧ H = [])
    (fun x => x.2.1.length) ([], a, b) (by decide) (.inl rfl) ⟨rfl, rfl, rfl, rfl, rfl, rfl, rfl, rfl⟩ ?_
  intro ⟨pre, sa, sb⟩ E df H ih hP
  obtain ⟨a1, a2, E0, E1, E12, E5, hdf, hH⟩ := hP
  dsimp only at a1 a2 E5
  subst hdf hH
  have la : a.length = pre.length + sa.length := by rw [a1, List.length_append]
  have lb : b.length = pre.length + sb.length := by rw [a2, List.length_append]
  cases sa with
  | nil =>
    cases sb with
    | nil =>
      have : a = b := by rw [a1, a2]
      simp only [List.length_nil, Nat.add_zero] at la lb
      simp (disch := omega) only [wk, avalE, aactE, evPE, boundE, asNat, bv_seql cellsEq_ii, bv_sneqd cellsEq_ii, readC, allOne, fillL, resE, tupled, ↓reduceIte, Nat.reduceEqDiff, Int.reduceEq, Int.reduceLT, Int.reduceLE, Nat.reduceAdd, Nat.reduceMul, Nat.reduceLT, Nat.reduceLeDiff, reduceCtorEq, E0, E1, E12, E5, la, lb, this, purify, unownT, AV.hf]
    | cons y r => simp at la lb; omega
  | cons x r =>
    cases sb with
    | nil => simp at la lb; omega
    | cons y q =>
      simp only [List.length_cons] at la lb
      obtain rfl := z1 (by rw [a1]; simp)
      obtain rfl := z2 (by rw [a2]; simp)
      have d1 := wdrop pre x r r1
      have d2 := wdrop pre y q r2
      rw [← a1] at d1
      rw [← a2] at d2
      have n1 : (pre.length : Int) < (a.length : Int) := by omega
      have n2 : (pre.length : Int) < (b.length : Int) := by omega
      by_cases hxy : x = y
      · subst hxy
        simp (disch := omega) only [wk, avalE, aactE, evPE, boundE, asNat, bv_seql cellsEq_ii, bv_sneqd cellsEq_ii, readC, allOne, fillL, resE, tupled, ↓reduceIte, Nat.reduceEqDiff, Int.reduceEq, Int.reduceLT, Int.reduceLE, Nat.reduceAdd, Nat.reduceMul, Nat.reduceLT, Nat.reduceLeDiff, reduceCtorEq, E0, E1, E12, E5, n1, n2, d1, d2]
        refine ih (pre ++ [x], r, q) _ _ _ (by simp) ?_
        exact ⟨by simp [a1], by simp [a2], by simp only [en, ↓reduceIte, Nat.reduceEqDiff, E0], by simp only [en, ↓reduceIte, Nat.reduceEqDiff, E1], by simp only [en, ↓reduceIte, Nat.reduceEqDiff, E12], by simp only [en, ↓reduceIte, Nat.reduceEqDiff], rfl, rfl⟩
      · have : ¬ a = b := by rw [a1, a2]; simp [hxy]
        simp (disch := omega) only [wk, avalE, aactE, evPE, boundE, asNat, bv_seql cellsEq_ii, bv_sneqd cellsEq_ii, readC, allOne, fillL, resE, tupled, ↓reduceIte, Nat.reduceEqDiff, Int.reduceEq, Int.reduceLT, Int.reduceLE, Nat.reduceAdd, Nat.reduceMul, Nat.reduceLT, Nat.reduceLeDiff, reduceCtorEq, E0, E1, E12, E5, n1, n2, d1, d2, hxy, this, purify, unownT, AV.hf]
theorem equal_v {a b : List Int} {r1 r2 : List AV} {s1 s2 : Nat} {k1 k2 : Tk} {v1 v2 : AV} {H : Heap} (hv1 : lendK H 4 v1 = .sl s1 a.length (encs u64A a ++ r1) k1) (hv2 : lendK H 4 v2 = .sl s2 b.length (encs u64A b ++ r2) k2)
    (ha : a.length ≤ 1000) (hb : b.length ≤ 1000) (z1 : a ≠ [] → s1 = 1) (z2 : b ≠ [] → s2 = 1) (h1 : hfL r1 = true) (h2 : hfL r2 = true) (t1 : k1.hf = true) (t2 : k2.hf = true) :
    pcx (cbL tab) 55 [v1, v2] H = some (.plain (.bool (decide (a = b)))) :=
  pcx_L rfl (by simp [hv1, hv2]) (equal_pc a b r1 r2 s1 s2 k1 k2 ha hb z1 z2 h1 h2 t1 t2) rfl
theorem scal_byA : ∀ l : List UInt8, (encs byA l).all (·.scal) = true
  | [] => rfl
  | b :: r => by
    rw [encs_cons, List.all_append, scal_byA r]
    rfl
theorem bytes_v {l : List Int} {rest : List AV} {s : Nat} {tk : Tk} {v : AV} {H : Heap} (hv : lendK H 4 v = .sl s l.length (encs u64A l ++ rest) tk) (hn : l.length ≤ 100) (hs : s = 1) (hr : hfL rest = true) (hw : ∀ w ∈ l, 0 ≤ w ∧ w < 18446744073709551616) (ht : tk.hf = true) :
    pcx (cbL tab) 54 [v] H = some (prRow 1 byA (bytM l)) :=
  pcx_Lrow rfl (by simp [hv]) (bytes_pc l rest s tk hn hs hr hw ht) (scal_byA _)
end Go.Proofs.Ytncmflmjlocgiaa
