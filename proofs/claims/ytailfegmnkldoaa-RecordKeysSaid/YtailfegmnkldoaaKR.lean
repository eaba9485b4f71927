/- ROUNDS, WORDS THAT ARE TAKEN. No condition but those stated. -/
import Derived.Test.YtailfegmnkldoaaKH
set_option linter.unusedSimpArgs false
set_option linter.unusedVariables false
set_option linter.unusedSectionVars false
namespace Go.Proofs.Ytailfegmnkldoaa
open Go Go.Am Go.Rec
set_option maxHeartbeats 4000000
set_option maxRecDepth 10000
def h01 (v : V4) : V4 := { v with a := add64 v.a v.b, b := xorI (rotM v.b 13) (add64 v.a v.b) }
def h23 (v : V4) : V4 := { v with c := add64 v.c v.d, d := xorI (rotM v.d 16) (add64 v.c v.d) }
def h03 (v : V4) : V4 := { v with a := add64 v.a v.d, d := xorI (rotM v.d 21) (add64 v.a v.d) }
def h21 (v : V4) : V4 := { v with c := add64 v.c v.b, b := xorI (rotM v.b 17) (add64 v.c v.b) }
def ra (v : V4) : V4 := { v with a := rotM v.a 32 }
def rc (v : V4) : V4 := { v with c := rotM v.c 32 }
theorem h01_ok {v : V4} (h : v.ok) : (h01 v).ok := ⟨add64_ok _ _, (rotM_ok h.2.1 _).x (add64_ok _ _), h.2.2.1, h.2.2.2⟩
theorem h23_ok {v : V4} (h : v.ok) : (h23 v).ok := ⟨h.1, h.2.1, add64_ok _ _, (rotM_ok h.2.2.2 _).x (add64_ok _ _)⟩
theorem h03_ok {v : V4} (h : v.ok) : (h03 v).ok := ⟨add64_ok _ _, h.2.1, h.2.2.1, (rotM_ok h.2.2.2 _).x (add64_ok _ _)⟩
theorem h21_ok {v : V4} (h : v.ok) : (h21 v).ok := ⟨h.1, (rotM_ok h.2.1 _).x (add64_ok _ _), add64_ok _ _, h.2.2.2⟩
theorem ra_ok {v : V4} (h : v.ok) : (ra v).ok := ⟨rotM_ok h.1 _, h.2⟩
theorem rc_ok {v : V4} (h : v.ok) : (rc v).ok := ⟨h.1, h.2.1, rotM_ok h.2.2.1 _, h.2.2.2⟩
def roundM (v : V4) : V4 := rc (h21 (h03 (h23 (ra (h01 v)))))
theorem roundM_ok {v : V4} (h : v.ok) : (roundM v).ok := rc_ok (h21_ok (h03_ok (h23_ok (ra_ok (h01_ok h)))))
def roundsM : Nat → V4 → V4
  | 0, v => v
  | k + 1, v => roundsM k (roundM v)
theorem roundsM_ok : ∀ (k : Nat) {v : V4}, v.ok → (roundsM k v).ok
  | 0, _, h => h
  | k + 1, _, h => roundsM_ok k (roundM_ok h)
theorem in_rounds {args : List AV} {H : Heap} : pcx (cbL tab) 188 args H = none := pcx_none rfl (pc_none (fi := c188) rfl rfl)
theorem ll_rounds : (cbL tab).lent 188 = false := rfl
theorem rounds_ic {H : Heap} {a : Nat} {v : V4} {rest : List AV} (hv : v.ok) (ha : H[a]? = some (.cells (vA v rest))) (m : Nat) (hm : m ≤ 100) :
    ∃ H', (cbL tab).ic 188 [.ptr a 0, .int .i64 (m : Nat)] H = some (.ret (.tup []), H') ∧ H'[a]? = some (.cells (vA (roundsM m v) rest)) ∧ Keep a H H' := by
  have hlt := (List.getElem?_eq_some_iff.1 ha).1
  have key : ∃ o H', (cbL tab).ic 188 [.ptr a 0, .int .i64 (m : Nat)] H = some (o, H') ∧ o = .ret (.tup []) ∧ H'[a]? = some (.cells (vA (roundsM m v) rest)) ∧ Keep a H H' := by
    refine ic_wp (fi := c188) rfl rfl (by simp [c188]) (by decide) ?_
    unfold c188
    have g0 : ∀ (L : List AObj), (H ++ L)[H.length]? = L[0]? := fun L => by rw [List.getElem?_append_right (by omega)]; congr 1; omega
    have g1 : ∀ (c : AObj) (L : List AObj), (H ++ c :: L)[H.length + 1]? = L[0]? := fun c L => by rw [List.getElem?_append_right (by omega), show H.length + 1 - H.length = 1 by omega]; rfl
    have s1 : ∀ (c : AObj) (L : List AObj) (o : AObj), (H ++ c :: L).set (H.length + 1) o = H ++ c :: L.set 0 o := fun c L o => by rw [List.set_append_right _ _ (by omega), show H.length + 1 - H.length = 1 by omega]; rfl
    have tp : ∀ H, pcx (cbL tab) 198 [] H = some (.plain (.agg [.int .i64 13, .int .i64 32, .int .i64 16, .int .i64 21, .int .i64 17, .int .i64 32])) := turns_px
    simp (disch := omega) only [wk, avalE, aactE, evPE, boundE, asNat, bv_seql cellsEq_ii, bv_sneqd cellsEq_ii, readC, allOne, fillL, resE, tupled, ↓reduceIte, Nat.reduceEqDiff, Int.reduceEq, Int.reduceLT, Int.reduceLE, Nat.reduceAdd, Nat.reduceMul, Nat.reduceLT, Nat.reduceLeDiff, reduceCtorEq, tp, g0, g1, s1, List.append_assoc]
    refine loop_ind (fun (y : Nat × V4) E df G => y.1 ≤ m ∧ y.2.ok ∧ roundsM m v = roundsM (m - y.1) y.2 ∧ G[a]? = some (.cells (vA y.2 rest)) ∧ G[H.length]? = some (.cells [.ptr a 0]) ∧ G[H.length + 1]? = some (.cells turnsA) ∧ Keep a H G ∧ E 2 = .ptr H.length 0 ∧ E 4 = .ptr (H.length + 1) 0 ∧ E 5 = .fn 199 [.ptr H.length 0, .ptr (H.length + 1) 0] ∧ E 8 = .int .i64 (m : Nat) ∧ E 9 = .int .i64 (y.1 : Nat) ∧ df = [])
      (fun y => m - y.1) (0, v) (by decide) (.inl rfl) ⟨by omega, hv, rfl, (by rw [List.getElem?_append_left hlt]; exact ha), g0 _, g1 _ _, Keep.app _ _ _, rfl, rfl, rfl, rfl, rfl, rfl⟩ ?_
    intro ⟨k, u⟩ E df G ih hP
    obtain ⟨b1, hu, b3, ga, gp, gq, gk, E2, E4, E5, E8, E9, hdf⟩ := hP
    dsimp only at b1 hu b3 ga E9
    subst hdf
    by_cases hk : k < m
    · have n1 : (k : Int) < (m : Int) := by omega
      have np : a ≠ H.length := by omega
      have nq : a ≠ H.length + 1 := by omega
      have st : ∀ o, (G.set a o)[a]? = some o := fun o => set_eq ga
      have sp : ∀ o, (G.set a o)[H.length]? = _ := fun o => (set_ne np).trans gp
      have sq : ∀ o, (G.set a o)[H.length + 1]? = _ := fun o => (set_ne nq).trans gq
      have c1 := half01_ic hu ga gp gq np nq
      have c2 := fun (o : AObj) => half23_ic (H := G.set a (.cells (vA (ra (h01 u)) rest))) (ra_ok (h01_ok hu)) (st _) (sp _) (sq _) np nq
      have c3 := half03_ic (H := G.set a (.cells (vA (h23 (ra (h01 u))) rest))) (h23_ok (ra_ok (h01_ok hu))) (st _) (sp _) (sq _) np nq
      have c4 := half21_ic (H := G.set a (.cells (vA (h03 (h23 (ra (h01 u)))) rest))) (h03_ok (h23_ok (ra_ok (h01_ok hu)))) (st _) (sp _) (sq _) np nq
      have c2 := c2 .dead
      rw [List.set_set] at c2 c3 c4
      have r1 : ∀ H, pcx (cbL tab) 200 [.int .u64 (h01 u).a, .int .i64 32] H = _ := fun H => rot_px (n := 32) (h01_ok hu).1 (by decide) H
      have w4 := h21_ok (h03_ok (h23_ok (ra_ok (h01_ok hu))))
      have r2 : ∀ H, pcx (cbL tab) 200 [.int .u64 (h21 (h03 (h23 (ra (h01 u))))).c, .int .i64 32] H = _ := fun H => rot_px (n := 32) w4.2.2.1 (by decide) H
      have c1' : (cbL tab).ic 199 [.int .i64 0, .int .i64 1, .int .i64 0, .ptr H.length 0, .ptr (H.length + 1) 0] G = some (.ret (.tup []), G.set a (.cells (.int .u64 (h01 u).a :: .int .u64 (h01 u).b :: .int .u64 (h01 u).c :: .int .u64 (h01 u).d :: rest))) := c1
      have c2' : (cbL tab).ic 199 [.int .i64 2, .int .i64 3, .int .i64 2, .ptr H.length 0, .ptr (H.length + 1) 0] (G.set a (.cells (.int .u64 (rotM (h01 u).a 32) :: .int .u64 (h01 u).b :: .int .u64 (h01 u).c :: .int .u64 (h01 u).d :: rest))) = some (.ret (.tup []), G.set a (.cells (vA (h23 (ra (h01 u))) rest))) := c2
      have c3' : (cbL tab).ic 199 [.int .i64 0, .int .i64 3, .int .i64 3, .ptr H.length 0, .ptr (H.length + 1) 0] (G.set a (.cells (vA (h23 (ra (h01 u))) rest))) = some (.ret (.tup []), G.set a (.cells (vA (h03 (h23 (ra (h01 u)))) rest))) := c3
      have c4' : (cbL tab).ic 199 [.int .i64 2, .int .i64 1, .int .i64 4, .ptr H.length 0, .ptr (H.length + 1) 0] (G.set a (.cells (vA (h03 (h23 (ra (h01 u)))) rest))) = some (.ret (.tup []), G.set a (.cells (.int .u64 (h21 (h03 (h23 (ra (h01 u))))).a :: .int .u64 (h21 (h03 (h23 (ra (h01 u))))).b :: .int .u64 (h21 (h03 (h23 (ra (h01 u))))).c :: .int .u64 (h21 (h03 (h23 (ra (h01 u))))).d :: rest))) := c4
      have t0 : Int.toNat 0 = 0 := rfl
      have t1 : Int.toNat 1 = 1 := rfl
      have t2 : Int.toNat 2 = 2 := rfl
      have t5 : Int.toNat 5 = 5 := rfl
      have hro := roundM_ok hu
      have hnext : (G.set a (.cells (vA (roundM u) rest)))[a]? = some (.cells (vA (roundM u) rest)) := st _
      have gq' : G[H.length + 1]? = some (.cells [.int .i64 13, .int .i64 32, .int .i64 16, .int .i64 21, .int .i64 17, .int .i64 32]) := gq
      have sq' : ∀ o, (G.set a o)[H.length + 1]? = some (.cells [.int .i64 13, .int .i64 32, .int .i64 16, .int .i64 21, .int .i64 17, .int .i64 32]) := sq
      clear c1 c2 c3 c4
      simp (disch := omega) only [wk, avalE, aactE, evPE, boundE, asNat, bv_seql cellsEq_ii, bv_sneqd cellsEq_ii, readC, allOne, fillL, resE, tupled, ↓reduceIte, Nat.reduceEqDiff, Int.reduceEq, Int.reduceLT, Int.reduceLE, Nat.reduceAdd, Nat.reduceMul, Nat.reduceLT, Nat.reduceLeDiff, reduceCtorEq, E2, E4, E5, E8, E9, n1, c1', c2', c3', c4', r1, r2, st, sp, gp, gq', sq', t0, t1, t2, t5, in_half, runE_none ll_half, List.set_set]
      refine ih (k + 1, roundM u) _ _ _ (by dsimp only; omega) ⟨by dsimp only; omega, hro, ?_, hnext, sp _, sq _, gk.trans (Keep.set _ _ _), by simp only [en, ↓reduceIte, Nat.reduceEqDiff, E2], by simp only [en, ↓reduceIte, Nat.reduceEqDiff, E4], by simp only [en, ↓reduceIte, Nat.reduceEqDiff, E5], by simp only [en, ↓reduceIte, Nat.reduceEqDiff, E8], by simp only [en, ↓reduceIte, Nat.reduceEqDiff], rfl⟩
      dsimp only
      rw [b3, show m - k = (m - (k + 1)) + 1 by omega]
      rfl
    · obtain rfl : k = m := by omega
      have n1 : ¬ (k : Int) < (k : Int) := by omega
      rw [Nat.sub_self] at b3
      have b4 : roundsM k v = u := b3
      rw [b4]
      simp (disch := omega) only [wk, avalE, aactE, evPE, boundE, asNat, bv_seql cellsEq_ii, bv_sneqd cellsEq_ii, readC, allOne, fillL, resE, tupled, ↓reduceIte, Nat.reduceEqDiff, Int.reduceEq, Int.reduceLT, Int.reduceLE, Nat.reduceAdd, Nat.reduceMul, Nat.reduceLT, Nat.reduceLeDiff, reduceCtorEq, E2, E4, E5, E8, E9, n1]
      exact ⟨ga, gk⟩
  obtain ⟨o, H', k1, rfl, k2, k3⟩ := key
  exact ⟨H', k1, k2, k3⟩
end Go.Proofs.Ytailfegmnkldoaa
