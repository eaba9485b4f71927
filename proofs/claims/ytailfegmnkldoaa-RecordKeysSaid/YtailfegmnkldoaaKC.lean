/- WORDS OF BYTES, ONE BY ONE. No condition but those stated. -/
import Derived.Test.YtailfegmnkldoaaKR
import Derived.Test.YtailfegmnkldoaaR5
set_option linter.unusedSimpArgs false
set_option linter.unusedVariables false
set_option linter.unusedSectionVars false
namespace Go.Proofs.Ytailfegmnkldoaa
open Go Go.Am Go.Rec
set_option maxHeartbeats 4000000
set_option maxRecDepth 10000
def preT (v : V4) (w : Int) : V4 := ⟨v.a, v.b, v.c, xorI v.d w⟩
def postT (u : V4) (w : Int) : V4 := ⟨xorI u.a w, u.b, u.c, u.d⟩
def takeM (v : V4) (w : Int) : V4 := postT (roundsM 2 (preT v w)) w
theorem preT_ok {v : V4} (h : v.ok) {w : Int} (hw : U64 w) : (preT v w).ok := ⟨h.1, h.2.1, h.2.2.1, h.2.2.2.x hw⟩
theorem postT_ok {v : V4} (h : v.ok) {w : Int} (hw : U64 w) : (postT v w).ok := ⟨h.1.x hw, h.2⟩
theorem takeM_ok {v : V4} (h : v.ok) {w : Int} (hw : U64 w) : (takeM v w).ok := postT_ok (roundsM_ok 2 (preT_ok h hw)) hw
theorem in_takes {args : List AV} {H : Heap} : pcx (cbL tab) 187 args H = none := pcx_none rfl (pc_none (fi := c187) rfl rfl)
theorem ll_takes : (cbL tab).lent 187 = false := rfl
theorem takes_gen {H H2 : Heap} {a : Nat} {v u : V4} {rest : List AV} {w : Int} (hv : v.ok) (hu : u.ok) (hw : U64 w) (ha : H[a]? = some (.cells (vA v rest)))
    (q1 : (cbL tab).ic 188 [.ptr a 0, .int .i64 2] (H.set a (.cells (vA (preT v w) rest))) = some (.ret (.tup []), H2)) (q2 : H2[a]? = some (.cells (vA u rest))) :
    (cbL tab).ic 187 [.ptr a 0, .int .u64 w] H = some (.ret (.tup []), H2.set a (.cells (vA (postT u w) rest))) := by
  obtain ⟨va, vb, vc, vd⟩ := v
  obtain ⟨ua, ub, uc, ud⟩ := u
  have x1 : ∀ {xo yo : X} {ek : EqK}, binV .xor ek xo yo (.int .u64 vd) (.int .u64 w) = some (.int .u64 (xorI vd w)) := fun {xo yo ek} => u64_xor hv.2.2.2.1 hv.2.2.2.2 hw.1 hw.2
  have x2 : ∀ {xo yo : X} {ek : EqK}, binV .xor ek xo yo (.int .u64 ua) (.int .u64 w) = some (.int .u64 (xorI ua w)) := fun {xo yo ek} => u64_xor hu.1.1 hu.1.2 hw.1 hw.2
  unfold vA preT at *
  unfold postT
  dsimp only at *
  generalize hP : xorI vd w = P at *
  generalize hQ : xorI ua w = Q at *
  have ha2 : (H.set a (.cells (.int .u64 va :: .int .u64 vb :: .int .u64 vc :: .int .u64 P :: rest)))[a]? = _ := set_eq ha
  have key : ∃ o H', (cbL tab).ic 187 [.ptr a 0, .int .u64 w] H = some (o, H') ∧ o = .ret (.tup []) ∧ H' = H2.set a (.cells (.int .u64 Q :: .int .u64 ub :: .int .u64 uc :: .int .u64 ud :: rest)) := by
    refine ic_wp (fi := c187) rfl rfl (by simp [c187]) (by decide) ?_
    unfold c187
    have t0 : Int.toNat 0 = 0 := rfl
    have t3 : Int.toNat 3 = 3 := rfl
    simp (disch := omega) only [wk, avalE, aactE, evPE, boundE, asNat, bv_seql cellsEq_ii, bv_sneqd cellsEq_ii, readC, allOne, fillL, resE, tupled, ↓reduceIte, Nat.reduceEqDiff, Int.reduceEq, Int.reduceLT, Int.reduceLE, Nat.reduceAdd, Nat.reduceMul, Nat.reduceLT, Nat.reduceLeDiff, reduceCtorEq, ha, ha2, x1, x2, q1, q2, t0, t3, in_rounds, runE_none ll_rounds]
  obtain ⟨o, H', k1, rfl, rfl⟩ := key
  exact k1
theorem takes_ic {H : Heap} {a : Nat} {v : V4} {rest : List AV} (hv : v.ok) (ha : H[a]? = some (.cells (vA v rest))) {w : Int} (hw : U64 w) :
    ∃ H', (cbL tab).ic 187 [.ptr a 0, .int .u64 w] H = some (.ret (.tup []), H') ∧ H'[a]? = some (.cells (vA (takeM v w) rest)) ∧ Keep a H H' := by
  obtain ⟨H2, q1, q2, q3⟩ := rounds_ic (H := H.set a (.cells (vA (preT v w) rest))) (preT_ok hv hw) (set_eq ha) 2 (by omega)
  exact ⟨_, takes_gen hv (roundsM_ok 2 (preT_ok hv hw)) hw ha q1 q2, set_eq q2, (Keep.set a H _).trans (q3.trans (Keep.set a H2 _))⟩
def chunkL (L : List UInt8) (j : Nat) : List UInt8 := (L.drop (8 * j)).take 8
theorem chunk_cells (L : List UInt8) (j : Nat) : ((encs byA L).take (8 * j + 8)).drop (8 * j) = encs byA (chunkL L j) := by
  have e1 : encs byA L = L.map fun b => AV.int .u8 (b.toNat : Nat) := by
    induction L with
    | nil => rfl
    | cons b r ih => rw [encs_cons, ih]; rfl
  have e2 : ∀ M : List UInt8, encs byA M = M.map fun b => AV.int .u8 (b.toNat : Nat) := by
    intro M
    induction M with
    | nil => rfl
    | cons b r ih => rw [encs_cons, ih]; rfl
  rw [e1, e2, chunkL, ← List.map_take, ← List.map_drop, List.drop_take]
  congr 3
  omega
theorem chunk1_ic (R : Nat → Heap → Prop) (id p q : Nat) (L : List UInt8) (M : Nat) (hM : 8 * M ≤ L.length) (hL : L.length ≤ 100000) (tk : Tk) (htk : tk.isZ = false)
    (hpq : ∀ j H, R j H → H[p]? = some (.cells [.sl 1 (8 * M) (encs byA L) tk]) ∧ H[q]? = some (.cells [.int .i64 8]))
    (hstep : ∀ (H : Heap) (j : Nat), j < M → R j H → ∃ H', (cbL tab).yl id [.sl 1 8 (encs byA (chunkL L j)) .ro] H = some (.ret (.bool true), H') ∧ R (j + 1) H')
    (H : Heap) (hR : R 0 H) :
    ∃ o H', (cbL tab).ic 208 [.yld id, .ptr p 0, .ptr q 0] H = some (o, H') ∧ o = .ret (.tup []) ∧ R M H' := by
  have lb : (encs byA L).length = L.length := by rw [encs_length (k := 1), Nat.mul_one]
  refine ic_wp (fi := c208) rfl rfl (by simp [c208]) (by decide) ?_
  unfold c208
  simp (disch := omega) only [wk, avalE, aactE, evPE, boundE, asNat, bv_seql cellsEq_ii, bv_sneqd cellsEq_ii, readC, allOne, fillL, resE, tupled, ↓reduceIte, Nat.reduceEqDiff, Int.reduceEq, Int.reduceLT, Int.reduceLE, Nat.reduceAdd, Nat.reduceMul, Nat.reduceLT, Nat.reduceLeDiff, reduceCtorEq]
  refine loop_ind (fun (j : Nat) E df H => j ≤ M ∧ E 0 = .yld id ∧ E 1 = .ptr p 0 ∧ E 2 = .ptr q 0 ∧ E 4 = .int .i64 (8 * (j : Int)) ∧ df = [] ∧ R j H)
    (fun j => M - j) 0 (by decide) (.inl rfl) ⟨by omega, rfl, rfl, rfl, rfl, rfl, hR⟩ ?_
  intro j F df H1 ih hP
  obtain ⟨hj, F0, F1, F2, F4, hdf, hR1⟩ := hP
  subst hdf
  obtain ⟨hp, hq⟩ := hpq j H1 hR1
  have c8 : ((8 * M : Nat) : Int) = 8 * (M : Int) := by omega
  by_cases hlt : j < M
  · have n1 : 8 * (j : Int) < ((8 * M : Nat) : Int) := by omega
    obtain ⟨H2, y1, y2⟩ := hstep H1 j hlt hR1
    have tn : (8 * (j : Int)).toNat = 8 * j := by omega
    have tn8 : (8 * (j : Int) + 8).toNat = 8 * j + 8 := by omega
    have n2 : 8 * j ≤ 8 * M := by omega
    have n3 : 8 * M ≤ (encs byA L).length := by rw [lb]; omega
    have cc := chunk_cells L j
    obtain ⟨cs', tk', hif⟩ : ∃ cs' tk', (if 8 * j = 0 then AV.sl 1 (8 * M) (encs byA L) tk else AV.sl 1 (8 * M - 8 * j) (List.drop (8 * j) (encs byA L)) Tk.ro) = AV.sl 1 (8 * M - 8 * j) cs' tk' := by
      by_cases h0 : 8 * j = 0
      · rw [if_pos h0, h0, Nat.sub_zero]; exact ⟨_, _, rfl⟩
      · rw [if_neg h0]; exact ⟨_, _, rfl⟩
    have n5 : (8 : Int) ≤ ((8 * M - 8 * j : Nat) : Int) := by omega
    have n6 : 8 * j + 8 ≤ (encs byA L).length := by rw [lb]; omega
    have n7 : 8 * j + 8 - 8 * j = 8 := by omega
    simp (disch := omega) only [wk, avalE, aactE, evPE, boundE, asNat, bv_seql cellsEq_ii, bv_sneqd cellsEq_ii, readC, allOne, fillL, resE, tupled, ↓reduceIte, Nat.reduceEqDiff, Int.reduceEq, Int.reduceLT, Int.reduceLE, Nat.reduceAdd, Nat.reduceMul, Nat.reduceLT, Nat.reduceLeDiff, reduceCtorEq, F0, F1, F2, F4, hp, hq, n1, tn, tn8, hif, n5]
    have hi2 : (if 8 * j ≤ 8 * j + 8 ∧ 8 * j + 8 ≤ (encs byA L).length ∧ tk.isZ = false then some (AV.sl 1 (8 * j + 8 - 8 * j) (List.drop (8 * j) (List.take (8 * j + 8) (encs byA L))) Tk.ro) else none) = some (.sl 1 8 (encs byA (chunkL L j)) .ro) := by
      rw [if_pos ⟨by omega, n6, htk⟩, n7, cc]
    obtain ⟨_, hq2⟩ := hpq (j + 1) H2 y2
    simp (disch := omega) only [wk, avalE, aactE, evPE, boundE, asNat, bv_seql cellsEq_ii, bv_sneqd cellsEq_ii, readC, allOne, fillL, resE, tupled, ↓reduceIte, Nat.reduceEqDiff, Int.reduceEq, Int.reduceLT, Int.reduceLE, Nat.reduceAdd, Nat.reduceMul, Nat.reduceLT, Nat.reduceLeDiff, reduceCtorEq, hi2, F0, F1, F2, F4, y1, hq2, Bool.not_true]
    refine ih (j + 1) _ _ _ (by omega) ⟨by omega, by simp only [en, ↓reduceIte, Nat.reduceEqDiff, F0], by simp only [en, ↓reduceIte, Nat.reduceEqDiff, F1], by simp only [en, ↓reduceIte, Nat.reduceEqDiff, F2], ?_, rfl, y2⟩
    have e8 : 8 * (j : Int) + 8 = 8 * ((j + 1 : Nat) : Int) := by omega
    rw [← e8]
    simp only [en, ↓reduceIte, Nat.reduceEqDiff]
  · obtain rfl : j = M := by omega
    have n1 : ¬ 8 * (j : Int) < ((8 * j : Nat) : Int) := by omega
    simp (disch := omega) only [wk, avalE, aactE, evPE, boundE, asNat, bv_seql cellsEq_ii, bv_sneqd cellsEq_ii, readC, allOne, fillL, resE, tupled, ↓reduceIte, Nat.reduceEqDiff, Int.reduceEq, Int.reduceLT, Int.reduceLE, Nat.reduceAdd, Nat.reduceMul, Nat.reduceLT, Nat.reduceLeDiff, reduceCtorEq, F0, F1, F2, F4, hp, hq, n1]
    exact hR1
end Go.Proofs.Ytailfegmnkldoaa
