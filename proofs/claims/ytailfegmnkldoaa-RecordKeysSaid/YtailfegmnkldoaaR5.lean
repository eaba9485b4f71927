/- THE WALK OF Lay, byte by byte. No condition but those stated. -/
import Derived.Test.YtailfegmnkldoaaR4
set_option linter.unusedSimpArgs false
set_option linter.unusedVariables false
set_option linter.unusedSectionVars false
namespace Go.Proofs.Ytailfegmnkldoaa
open Go Go.Am Go.Rec
set_option maxHeartbeats 2000000
set_option maxRecDepth 10000
/-- A row in memory. -/
def RowAt (H : Heap) (v : AV) (l : List Int) : Prop := (l = [] ∧ v = .sl 0 0 [] .z) ∨ (l ≠ [] ∧ ∃ id, v = .rsl 1 id l.length ∧ H[id]? = some (.cells (encs u64A l)))
theorem lenU (l : List Int) : (encs u64A l).length = l.length := by rw [encs_length (k := 1), Nat.mul_one]
theorem appR_row {H : Heap} {v : AV} {l : List Int} (h : RowAt H v l) (hn : l.length ≤ 1000) :
    ∃ id H', appR 1 8 v (.sl 1 1 [.int .u64 0] .ro) H = some (.val (.rsl 1 id (l.length + 1)), H') ∧ H'[id]? = some (.cells (encs u64A (l ++ [0]))) := by
  rcases h with ⟨rfl, rfl⟩ | ⟨hne, id, rfl, hid⟩
  · refine ⟨H.length, H ++ [.cells [.int .u64 0]], ?_, by simp [encs, u64A]⟩
    simp [appR, allOne, AV.one]
  · refine ⟨H.length, H.set id .dead ++ [.cells (encs u64A l ++ [.int .u64 0])], ?_, ?_⟩
    · have h1 : (l.length + 1) * 8 ≤ 70368744177664 := by omega
      have h2 : l.length + 1 ≤ 70368744177664 := by omega
      simp [appR, allOne, AV.one, hid, lenU, one_u64A, h1, h2]
    · rw [encs_append]
      have : (H.set id .dead).length = H.length := by simp
      rw [List.getElem?_append_right (by omega), this, Nat.sub_self]
      rfl
theorem getE (init : List Int) (last : Int) : (encs u64A (init ++ [last]))[init.length]? = some (.int .u64 last) := by
  rw [encs_append, List.getElem?_append_right (by rw [lenU]; exact Nat.le_refl _), lenU, Nat.sub_self]; rfl
theorem setE (init : List Int) (last v : Int) : List.take init.length (encs u64A (init ++ [last])) ++ [AV.int .u64 v] ++ List.drop (init.length + 1) (encs u64A (init ++ [last])) = encs u64A (init ++ [v]) := by
  rw [encs_append, encs_append, List.take_append_of_le_length (by rw [lenU]; exact Nat.le_refl _), List.take_of_length_le (by rw [lenU]; exact Nat.le_refl _), List.drop_of_length_le (by rw [List.length_append, lenU]; exact Nat.le_refl _), List.append_nil]
  rfl
theorem lay_pc (l : List UInt8) (tk : Tk) (hn : l.length ≤ 1000) (htk : tk.hf = true) : (cbL tab).pc 123 [.sl 1 l.length (encs byA l) tk] = some (prRow 1 u64A (layM l)) := by
  obtain ⟨u1, e1, f1⟩ := lend_sl 1 l.length (encs byA l) tk
  refine pc_wp (fi := c123) rfl ?_ (by simp [c123]) (by decide) ?_
  · show (hfL [.sl 1 l.length (encs byA l) tk] && hfL [lend (.sl 1 l.length (encs byA l) tk)]) = true
    rw [e1]
    simp [hfL, AV.hf, hf_byA, f1, htk]
  unfold c123
  rw [List.map_cons, List.map_nil, e1]
  simp (disch := omega) only [wk, avalE, aactE, evPE, boundE, asNat, bv_seql cellsEq_ii, bv_sneqd cellsEq_ii, readC, allOne, fillL, resE, tupled, ↓reduceIte, Nat.reduceEqDiff, Int.reduceEq, Int.reduceLT, Int.reduceLE, Nat.reduceAdd, Nat.reduceMul, Nat.reduceLT, Nat.reduceLeDiff, reduceCtorEq]
  refine loop_ind (fun (x : List UInt8 × List UInt8) E df H => l = x.1 ++ x.2 ∧ E 6 = .sl 1 l.length (encs byA l) u1 ∧ E 7 = .int .i64 (l.length : Nat) ∧ E 8 = .int .i64 (x.1.length : Nat) ∧ RowAt H (E 3) (layM x.1) ∧ df = [])
    (fun x => x.2.length) ([], l) (by decide) (.inl rfl) ⟨rfl, rfl, rfl, rfl, by rw [layM_nil]; exact .inl ⟨rfl, rfl⟩, rfl⟩ ?_
  intro ⟨pre, suf⟩ E df H ih hP
  obtain ⟨a1, E6, E7, E8, ho, hdf⟩ := hP
  dsimp only at a1 E8 ho
  subst hdf
  have hl : l.length = pre.length + suf.length := by rw [a1, List.length_append]
  cases suf with
  | nil =>
    rw [List.append_nil] at a1
    subst a1
    have hp : ∀ v, RowAt H v (layM l) → purify (some (.ret v, H)) = some (prRow 1 u64A (layM l)) := by
      intro v hv
      rcases hv with ⟨e, rfl⟩ | ⟨hne, id, rfl, hid⟩
      · rw [e]; rfl
      · have h1 : (layM l).isEmpty = false := by cases h : layM l with
          | nil => exact absurd h hne
          | cons _ _ => rfl
        have h2 : (layM l).length ≠ 0 := fun h => hne (List.length_eq_zero_iff.1 h)
        simp only [purify, hid, prRow, h1, lenU, Nat.mul_one, hf_u64A, Bool.false_eq_true, if_false]
        rw [if_pos ⟨trivial, h2, trivial⟩]
    simp (disch := omega) only [wk, avalE, aactE, evPE, boundE, asNat, bv_seql cellsEq_ii, bv_sneqd cellsEq_ii, readC, allOne, fillL, resE, tupled, ↓reduceIte, Nat.reduceEqDiff, Int.reduceEq, Int.reduceLT, Int.reduceLE, Nat.reduceAdd, Nat.reduceMul, Nat.reduceLT, Nat.reduceLeDiff, reduceCtorEq, E6, E7, E8, hp _ ho]
  | cons b r =>
    simp only [List.length_cons] at hl
    obtain ⟨init, last, s1, s2, s3, s4, s5⟩ := layM_snoc pre b
    have d : List.drop pre.length (encs byA l) = .int .u8 (b.toNat : Nat) :: encs byA r := by
      have := tdrop pre b r
      rw [Nat.mul_one, ← a1] at this
      exact this
    have hb := u8_lt b
    have n1 : (pre.length : Int) < (l.length : Int) := by omega
    have cv : IntKind.u64.wrap (b.toNat : Int) = (b.toNat : Int) := wrap_u64 (by omega) (by omega)
    have hm8 : pre.length % 8 < 8 := Nat.mod_lt _ (by decide)
    have emod : (pre.length : Int) % 8 = ((pre.length % 8 : Nat) : Int) := by omega
    have ediv : (pre.length : Int) / 8 = (init.length : Nat) := by rw [s1]; omega
    have pw : (2 : Int) ^ (8 * ((pre.length % 8 : Nat) : Int)).toNat = 256 ^ (pre.length % 8) := by
      have : (8 * ((pre.length % 8 : Nat) : Int)).toNat = 8 * (pre.length % 8) := by omega
      rw [this, Int.pow_mul]
      rfl
    have pw0 : (0 : Int) ≤ (b.toNat : Int) * 256 ^ (pre.length % 8) := Int.mul_nonneg (by omega) (Int.pow_nonneg (by decide))
    have pl : last + (b.toNat : Int) * 256 ^ (pre.length % 8) < 18446744073709551616 := by
      have h1 : last + (b.toNat : Int) * 256 ^ (pre.length % 8) < 256 ^ (pre.length % 8 + 1) := by
        rw [Int.pow_succ]
        have h3 : (b.toNat : Int) * 256 ^ (pre.length % 8) ≤ 255 * 256 ^ (pre.length % 8) := Int.mul_le_mul_of_nonneg_right (by omega) (Int.pow_nonneg (by decide))
        omega
      exact Int.lt_of_lt_of_le h1 (pow_le8 (by omega))
    have sh := fun xo yo ek => u64_shl (xo := xo) (yo := yo) (ek := ek) (a := (b.toNat : Int)) (b := 8 * ((pre.length % 8 : Nat) : Int)) (k := .i64) (by omega) (by omega) (by rw [pw]; exact pw0) (by rw [pw]; omega)
    rw [pw] at sh
    have pw2 : (2 : Int) ^ (8 * (pre.length % 8)) = 256 ^ (pre.length % 8) := by rw [Int.pow_mul]; rfl
    have sor := fun xo yo ek => u64_orE (xo := xo) (yo := yo) (ek := ek) (a := last) (m := (b.toNat : Int)) (8 * (pre.length % 8)) s2 (by rw [pw2]; exact s3) (by omega) (by rw [pw2]; exact pl) (by rw [pw2]; exact pw0)
    rw [pw2] at sor
    have li : (init.length : Int) < ((init.length + 1 : Nat) : Int) := by omega
    have i0 : (0 : Int) ≤ (init.length : Int) := by omega
    by_cases h8 : pre.length % 8 = 0
    · rw [if_pos h8] at s5
      obtain ⟨s5, rfl⟩ := s5
      have h8' : ((pre.length % 8 : Nat) : Int) = 0 := by omega
      obtain ⟨id, H2, ap, hid⟩ := appR_row ho (by rw [layM_len]; omega)
      rw [s5] at ap hid
      have sid : id < H2.length := (List.getElem?_eq_some_iff.1 hid).1
      rw [h8'] at sh
      simp (disch := omega) only [wk, avalE, aactE, evPE, boundE, asNat, bv_seql cellsEq_ii, bv_sneqd cellsEq_ii, readC, allOne, fillL, resE, tupled, ↓reduceIte, Nat.reduceEqDiff, Int.reduceEq, Int.reduceLT, Int.reduceLE, Nat.reduceAdd, Nat.reduceMul, Nat.reduceLT, Nat.reduceLeDiff, reduceCtorEq, E6, E7, E8, n1, d, emod, ediv, h8', ap, s5, hid, getE, setE, sor, cv, sh, li, i0, lenU]
      refine ih (pre ++ [b], r) _ _ _ (by simp) ?_
      refine ⟨by simp [a1], by simp only [en, ↓reduceIte, Nat.reduceEqDiff, E6], by simp only [en, ↓reduceIte, Nat.reduceEqDiff, E7], by simp only [en, ↓reduceIte, Nat.reduceEqDiff], .inr ⟨by rw [s4]; simp, id, ?_, ?_⟩, rfl⟩
      · simp only [en, ↓reduceIte, Nat.reduceEqDiff, s4]
      · rw [s4]; exact List.getElem?_set_self sid
    · rw [if_neg h8] at s5
      have h8' : ¬ ((pre.length % 8 : Nat) : Int) = 0 := by omega
      rcases ho with ⟨e, _⟩ | ⟨hne, id, E3, hid⟩
      · rw [e] at s5; simp at s5
      · have sid : id < H.length := (List.getElem?_eq_some_iff.1 hid).1
        rw [s5] at E3 hid
        rw [List.length_append, List.length_singleton] at E3
        simp (disch := omega) only [wk, avalE, aactE, evPE, boundE, asNat, bv_seql cellsEq_ii, bv_sneqd cellsEq_ii, readC, allOne, fillL, resE, tupled, ↓reduceIte, Nat.reduceEqDiff, Int.reduceEq, Int.reduceLT, Int.reduceLE, Nat.reduceAdd, Nat.reduceMul, Nat.reduceLT, Nat.reduceLeDiff, reduceCtorEq, E3, E6, E7, E8, n1, d, emod, ediv, h8', hid, getE, setE, sor, cv, sh, li, i0, lenU]
        refine ih (pre ++ [b], r) _ _ _ (by simp) ?_
        refine ⟨by simp [a1], by simp only [en, ↓reduceIte, Nat.reduceEqDiff, E6], by simp only [en, ↓reduceIte, Nat.reduceEqDiff, E7], by simp only [en, ↓reduceIte, Nat.reduceEqDiff], .inr ⟨by rw [s4]; simp, id, ?_, ?_⟩, rfl⟩
        · simp only [en, ↓reduceIte, Nat.reduceEqDiff, s4, E3]
        · rw [s4]; exact List.getElem?_set_self sid
theorem scal_u64 (l : List Int) : (encs u64A l).all (·.scal) = true := by
  induction l with
  | nil => rfl
  | cons x r ih => rw [show encs u64A (x :: r) = .int .u64 x :: encs u64A r from rfl, List.all_cons, ih]; rfl
theorem lay_px (l : List UInt8) (s : Nat) (tk : Tk) (H : Heap) (hn : l.length ≤ 1000) (hs : s = 1) (htk : tk.hf = true) : pcx (cbL tab) 123 [.sl s l.length (encs byA l) tk] H = some (prRow 1 u64A (layM l)) := by
  subst hs
  exact pcx_Lrow rfl (by rw [List.map_cons, List.map_nil, lendK_sl]) (lay_pc l tk hn htk) (scal_u64 _)
end Go.Proofs.Ytailfegmnkldoaa
