/- THE WALKS OF KINDS. No condition but those stated. -/
import Derived.Test.YtncmflmjlocgiaaN2
import Derived.Test.YtncmflmjlocgiaaAmRng
set_option linter.unusedSimpArgs false
set_option linter.unusedVariables false
set_option linter.unusedSectionVars false
namespace Go.Proofs.Ytncmflmjlocgiaa
open Go Go.Am Go.Rec Go.Ino
set_option maxHeartbeats 4000000
set_option maxRecDepth 10000
theorem must_t (H : Heap) : pcx (cbL tab) 67 [.bool true] H = some (.plain (.tup [])) := by
  refine pcx_N rfl (pc_wp (fi := c67) rfl rfl (by simp [c67]) (by decide) ?_)
  unfold c67
  have lb : lend (.bool true) = .bool true := rfl
  rw [List.map_cons, List.map_nil, lb]
  simp (disch := omega) only [wk, avalE, aactE, evPE, boundE, asNat, bv_seql cellsEq_ii, bv_sneqd cellsEq_ii, readC, allOne, fillL, resE, tupled, ↓reduceIte, Nat.reduceEqDiff, Int.reduceEq, Int.reduceLT, Int.reduceLE, Nat.reduceAdd, Nat.reduceMul, Nat.reduceLT, Nat.reduceLeDiff, reduceCtorEq, purify, unownT, AV.hf, hfL]
theorem must_f (H : Heap) : pcx (cbL tab) 67 [.bool false] H = some (.pan [(.iface 26 (.int .i64 240), false)]) := by
  refine pcx_N rfl (pc_wp (fi := c67) rfl rfl (by simp [c67]) (by decide) ?_)
  unfold c67
  have lb : lend (.bool false) = .bool false := rfl
  rw [List.map_cons, List.map_nil, lb]
  simp (disch := omega) only [wk, avalE, aactE, evPE, boundE, asNat, bv_seql cellsEq_ii, bv_sneqd cellsEq_ii, readC, allOne, fillL, resE, tupled, ↓reduceIte, Nat.reduceEqDiff, Int.reduceEq, Int.reduceLT, Int.reduceLE, Nat.reduceAdd, Nat.reduceMul, Nat.reduceLT, Nat.reduceLeDiff, reduceCtorEq, purify, unownT, AV.hf, hfL]
theorem caught_ret (a : Nat) (f : FuncId) (caps : List AV) (H : Heap) : leaveA tab (cbL tab) [.call 65 [.ptr a 0, .fn f caps]] .returning H = some (.returning, H) := by
  rfl
theorem caught_pan (a : Nat) (f : FuncId) (caps : List AV) (H H1 : Heap) (e : Int) (y v : AV) (h : enterA (cbL tab) f caps H = some (.ret v, H1)) (hy : H1[a]? = some (.cells [y])) :
    leaveA tab (cbL tab) [.call 65 [.ptr a 0, .fn f caps]] (.panicking [(.iface 26 (.int .i64 e), false)]) H = some (.returning, H1.set a (.cells [.int .i64 e])) := by
  have ht : tab 65 = some c65 := rfl
  simp [leaveA, ht, bodyD, c65, acodeD, aregionD, hasRecov, acode, aregion, aval, aact, putD, X.ev, fr0, wantedA, binV, eqV, unV, h, hy, AV.flat, allOne, AV.one, resA, settleA, isNili]
theorem clear77 (H : Heap) : enterA (cbL tab) 77 [] H = some (.ret (.tup []), H) := by
  have : pcx (cbL tab) 77 [] H = some (.plain (.tup [])) := by
    refine pcx_N rfl (pc_wp (fi := c77) rfl rfl (by simp [c77]) (by decide) ?_)
    unfold c77
    simp (disch := omega) only [wk, avalE, aactE, evPE, boundE, asNat, bv_seql cellsEq_ii, bv_sneqd cellsEq_ii, readC, allOne, fillL, resE, tupled, ↓reduceIte, Nat.reduceEqDiff, Int.reduceEq, Int.reduceLT, Int.reduceLE, Nat.reduceAdd, Nat.reduceMul, Nat.reduceLT, Nat.reduceLeDiff, reduceCtorEq, purify, unownT, AV.hf, hfL]
  rw [enterA_pr this]
  rfl
theorem clear71 (o : Nat) (x : AV) (H : Heap) (hx : H[o]? = some (.cells [x])) : enterA (cbL tab) 71 [.ptr o 0] H = some (.ret (.tup []), H.set o (.cells [.sl 0 0 [] .z])) := by
  have : ∃ q H', (cbL tab).ic 71 [.ptr o 0] H = some (q, H') ∧ q = .ret (.tup []) ∧ H' = H.set o (.cells [.sl 0 0 [] .z]) := by
    refine ic_wp (fi := c71) rfl rfl (by simp [c71]) (by decide) ?_
    unfold c71
    simp (disch := omega) only [wk, avalE, aactE, evPE, boundE, asNat, bv_seql cellsEq_ii, bv_sneqd cellsEq_ii, readC, allOne, fillL, resE, tupled, ↓reduceIte, Nat.reduceEqDiff, Int.reduceEq, Int.reduceLT, Int.reduceLE, Nat.reduceAdd, Nat.reduceMul, Nat.reduceLT, Nat.reduceLeDiff, reduceCtorEq, hx, List.append_nil]
  obtain ⟨q, H', h, rfl, rfl⟩ := this
  exact enterA_ic rfl (pc_none (fi := c71) rfl rfl) h
def kindsE : List (AV × AV) := [(.int .i64 0, .agg [.fn 99 [], .fn 100 [], .fn 101 [], .fn 102 []]),
  (.int .i64 1, .agg [.fn 103 [], .fn 104 [], .fn 107 [], .fn 110 []]),
  (.int .i64 2, .agg [.fn 113 [], .fn 114 [], .fn 115 [], .fn 116 []]),
  (.int .i64 3, .agg [.fn 117 [], .fn 118 [], .fn 120 [], .fn 121 []])]
theorem kinds_px (H : Heap) : pcx (cbL tab) 68 [] H = some (.fmap kindsE) := by
  refine pcx_N rfl (pc_wp (fi := c68) rfl rfl (by simp [c68]) (by decide) ?_)
  unfold c68 kindsE
  have b10 : ((1 : Int) == 0) = false := rfl
  have b20 : ((2 : Int) == 0) = false := rfl
  have b21 : ((2 : Int) == 1) = false := rfl
  have b30 : ((3 : Int) == 0) = false := rfl
  have b31 : ((3 : Int) == 1) = false := rfl
  have b32 : ((3 : Int) == 2) = false := rfl
  simp (disch := omega) only [wk, avalE, aactE, evPE, boundE, asNat, bv_seql cellsEq_ii, bv_sneqd cellsEq_ii, readC, allOne, fillL, resE, tupled, ↓reduceIte, Nat.reduceEqDiff, Int.reduceEq, Int.reduceLT, Int.reduceLE, Nat.reduceAdd, Nat.reduceMul, Nat.reduceLT, Nat.reduceLeDiff, reduceCtorEq, findA, cellEq, b10, b20, b21, b30, b31, b32, purify, hfL, AV.hf]
/-- The inode with what its kind names alone. -/
def bareI (n : Ino) : Ino :=
  if n.kind = 1 then ⟨0, n.links, n.size, n.map, 0, 0, ⟨#[]⟩⟩
  else if n.kind = 2 then ⟨0, n.links, 0, [], n.root, n.parent, ⟨#[]⟩⟩
  else if n.kind = 3 then ⟨0, n.links, 0, [], 0, 0, n.target⟩
  else ⟨0, 0, 0, [], 0, 0, ⟨#[]⟩⟩
def nilm' : AV := .sl 0 0 [] .z
theorem MapR.nil : MapR nilm' [] := ⟨0, [], .z, rfl, fun h => absurd rfl h, rfl, rfl⟩
theorem purify_ino {n : Ino} {m : AV} (hm : MapR m n.map) (H : Heap) : purify (some (.ret (inoA n m), H)) = some (.plain (inoA n m)) := by
  have : (unownT (inoA n m)).hf = true := hf_inoA hm
  show (if (unownT (inoA n m)).hf then some (PR.plain (unownT (inoA n m))) else none) = _
  rw [if_pos this]; rfl
theorem bare0_px (n : Ino) (m : AV) (hm : MapR m n.map) (H : Heap) : pcx (cbL tab) 99 [inoA n m] H = some (.plain (inoA ⟨0, 0, 0, [], 0, 0, ⟨#[]⟩⟩ nilm')) := by
  refine pcx_N rfl (pc_wp (fi := c99) rfl ?_ (by simp [c99]) (by decide) ?_)
  · simp only [pcOn, List.map_cons, List.map_nil, hfL, hf_lend_sl, hf_lend_int, hf_lend_bool, hf_lend_str, hfL_append, Bool.and_self, Bool.and_true, Bool.true_and, c99, lend_inoA hm, hf_inoA hm]
  unfold c99
  rw [List.map_cons, List.map_nil, lend_inoA hm]
  have m1 := hm.one.1
  have m2 := hm.one.2
  have p := fun H => purify_ino (n := ⟨0, 0, 0, [], 0, 0, ⟨#[]⟩⟩) MapR.nil H
  simp only [inoA, nilm'] at p ⊢
  simp (disch := omega) only [wk, avalE, aactE, evPE, boundE, asNat, bv_seql cellsEq_ii, bv_sneqd cellsEq_ii, readC, allOne, fillL, resE, tupled, ↓reduceIte, Nat.reduceEqDiff, Int.reduceEq, Int.reduceLT, Int.reduceLE, Nat.reduceAdd, Nat.reduceMul, Nat.reduceLT, Nat.reduceLeDiff, reduceCtorEq, m1, m2, p]
theorem bare1_px (n : Ino) (m : AV) (hm : MapR m n.map) (H : Heap) : pcx (cbL tab) 103 [inoA n m] H = some (.plain (inoA ⟨0, n.links, n.size, n.map, 0, 0, ⟨#[]⟩⟩ m)) := by
  refine pcx_N rfl (pc_wp (fi := c103) rfl ?_ (by simp [c103]) (by decide) ?_)
  · simp only [pcOn, List.map_cons, List.map_nil, hfL, hf_lend_sl, hf_lend_int, hf_lend_bool, hf_lend_str, hfL_append, Bool.and_self, Bool.and_true, Bool.true_and, c103, lend_inoA hm, hf_inoA hm]
  unfold c103
  rw [List.map_cons, List.map_nil, lend_inoA hm]
  have m1 := hm.one.1
  have m2 := hm.one.2
  have p := fun H => purify_ino (n := ⟨0, n.links, n.size, n.map, 0, 0, ⟨#[]⟩⟩) hm H
  simp only [inoA] at p ⊢
  simp (disch := omega) only [wk, avalE, aactE, evPE, boundE, asNat, bv_seql cellsEq_ii, bv_sneqd cellsEq_ii, readC, allOne, fillL, resE, tupled, ↓reduceIte, Nat.reduceEqDiff, Int.reduceEq, Int.reduceLT, Int.reduceLE, Nat.reduceAdd, Nat.reduceMul, Nat.reduceLT, Nat.reduceLeDiff, reduceCtorEq, m1, m2, p]
theorem bare2_px (n : Ino) (m : AV) (hm : MapR m n.map) (H : Heap) : pcx (cbL tab) 113 [inoA n m] H = some (.plain (inoA ⟨0, n.links, 0, [], n.root, n.parent, ⟨#[]⟩⟩ nilm')) := by
  refine pcx_N rfl (pc_wp (fi := c113) rfl ?_ (by simp [c113]) (by decide) ?_)
  · simp only [pcOn, List.map_cons, List.map_nil, hfL, hf_lend_sl, hf_lend_int, hf_lend_bool, hf_lend_str, hfL_append, Bool.and_self, Bool.and_true, Bool.true_and, c113, lend_inoA hm, hf_inoA hm]
  unfold c113
  rw [List.map_cons, List.map_nil, lend_inoA hm]
  have m1 := hm.one.1
  have m2 := hm.one.2
  have p := fun H => purify_ino (n := ⟨0, n.links, 0, [], n.root, n.parent, ⟨#[]⟩⟩) MapR.nil H
  simp only [inoA, nilm'] at p ⊢
  simp (disch := omega) only [wk, avalE, aactE, evPE, boundE, asNat, bv_seql cellsEq_ii, bv_sneqd cellsEq_ii, readC, allOne, fillL, resE, tupled, ↓reduceIte, Nat.reduceEqDiff, Int.reduceEq, Int.reduceLT, Int.reduceLE, Nat.reduceAdd, Nat.reduceMul, Nat.reduceLT, Nat.reduceLeDiff, reduceCtorEq, m1, m2, p]
theorem bare3_px (n : Ino) (m : AV) (hm : MapR m n.map) (H : Heap) : pcx (cbL tab) 117 [inoA n m] H = some (.plain (inoA ⟨0, n.links, 0, [], 0, 0, n.target⟩ nilm')) := by
  refine pcx_N rfl (pc_wp (fi := c117) rfl ?_ (by simp [c117]) (by decide) ?_)
  · simp only [pcOn, List.map_cons, List.map_nil, hfL, hf_lend_sl, hf_lend_int, hf_lend_bool, hf_lend_str, hfL_append, Bool.and_self, Bool.and_true, Bool.true_and, c117, lend_inoA hm, hf_inoA hm]
  unfold c117
  rw [List.map_cons, List.map_nil, lend_inoA hm]
  have m1 := hm.one.1
  have m2 := hm.one.2
  have p := fun H => purify_ino (n := ⟨0, n.links, 0, [], 0, 0, n.target⟩) MapR.nil H
  simp only [inoA, nilm'] at p ⊢
  simp (disch := omega) only [wk, avalE, aactE, evPE, boundE, asNat, bv_seql cellsEq_ii, bv_sneqd cellsEq_ii, readC, allOne, fillL, resE, tupled, ↓reduceIte, Nat.reduceEqDiff, Int.reduceEq, Int.reduceLT, Int.reduceLE, Nat.reduceAdd, Nat.reduceMul, Nat.reduceLT, Nat.reduceLeDiff, reduceCtorEq, m1, m2, p]
theorem may0_px (n : Ino) (m : AV) (hm : MapR m n.map) (H : Heap) : pcx (cbL tab) 100 [inoA n m] H = some (.plain (.bool true)) := by
  refine pcx_N rfl (pc_wp (fi := c100) rfl ?_ (by simp [c100]) (by decide) ?_)
  · simp only [pcOn, List.map_cons, List.map_nil, hfL, hf_lend_sl, hf_lend_int, hf_lend_bool, hf_lend_str, hfL_append, Bool.and_self, Bool.and_true, Bool.true_and, c100, lend_inoA hm, hf_inoA hm]
  unfold c100
  rw [List.map_cons, List.map_nil, lend_inoA hm]
  have m1 := hm.one.1
  have m2 := hm.one.2
  simp only [inoA]
  simp (disch := omega) only [wk, avalE, aactE, evPE, boundE, asNat, bv_seql cellsEq_ii, bv_sneqd cellsEq_ii, readC, allOne, fillL, resE, tupled, ↓reduceIte, Nat.reduceEqDiff, Int.reduceEq, Int.reduceLT, Int.reduceLE, Nat.reduceAdd, Nat.reduceMul, Nat.reduceLT, Nat.reduceLeDiff, reduceCtorEq, m1, m2, purify, unownT, AV.hf]
theorem may2_px (n : Ino) (m : AV) (hm : MapR m n.map) (H : Heap) : pcx (cbL tab) 114 [inoA n m] H = some (.plain (.bool (decide ((1 ≤ n.root ∧ n.root ≤ 2047) ∧ (1 ≤ n.parent ∧ n.parent ≤ 256))))) := by
  refine pcx_N rfl (pc_wp (fi := c114) rfl ?_ (by simp [c114]) (by decide) ?_)
  · simp only [pcOn, List.map_cons, List.map_nil, hfL, hf_lend_sl, hf_lend_int, hf_lend_bool, hf_lend_str, hfL_append, Bool.and_self, Bool.and_true, Bool.true_and, c114, lend_inoA hm, hf_inoA hm]
  unfold c114
  rw [List.map_cons, List.map_nil, lend_inoA hm]
  have m1 := hm.one.1
  have m2 := hm.one.2
  have p1 := fun H => ini_px n.root 1 2047 H
  have p2 := fun H => ini_px n.parent 1 256 H
  simp only [inoA]
  by_cases c1 : 1 ≤ n.root ∧ n.root ≤ 2047
  · by_cases c2 : 1 ≤ n.parent ∧ n.parent ≤ 256
    · simp (disch := omega) only [wk, avalE, aactE, evPE, boundE, asNat, bv_seql cellsEq_ii, bv_sneqd cellsEq_ii, readC, allOne, fillL, resE, tupled, ↓reduceIte, Nat.reduceEqDiff, Int.reduceEq, Int.reduceLT, Int.reduceLE, Nat.reduceAdd, Nat.reduceMul, Nat.reduceLT, Nat.reduceLeDiff, reduceCtorEq, m1, m2, p1, p2, c1, c2, purify, unownT, AV.hf]
    · have c2' : decide (1 ≤ n.parent ∧ n.parent ≤ 256) = false := decide_eq_false c2
      have e : decide ((1 ≤ n.root ∧ n.root ≤ 2047) ∧ (1 ≤ n.parent ∧ n.parent ≤ 256)) = false := decide_eq_false (fun h => c2 h.2)
      rw [e]
      clear c2
      simp (disch := omega) only [wk, avalE, aactE, evPE, boundE, asNat, bv_seql cellsEq_ii, bv_sneqd cellsEq_ii, readC, allOne, fillL, resE, tupled, ↓reduceIte, Nat.reduceEqDiff, Int.reduceEq, Int.reduceLT, Int.reduceLE, Nat.reduceAdd, Nat.reduceMul, Nat.reduceLT, Nat.reduceLeDiff, reduceCtorEq, m1, m2, p1, p2, c1, c2', purify, unownT, AV.hf]
  · have c1' : decide (1 ≤ n.root ∧ n.root ≤ 2047) = false := decide_eq_false c1
    have e : decide ((1 ≤ n.root ∧ n.root ≤ 2047) ∧ (1 ≤ n.parent ∧ n.parent ≤ 256)) = false := decide_eq_false (fun h => c1 h.1)
    rw [e]
    clear c1
    simp (disch := omega) only [wk, avalE, aactE, evPE, boundE, asNat, bv_seql cellsEq_ii, bv_sneqd cellsEq_ii, readC, allOne, fillL, resE, tupled, ↓reduceIte, Nat.reduceEqDiff, Int.reduceEq, Int.reduceLT, Int.reduceLE, Nat.reduceAdd, Nat.reduceMul, Nat.reduceLT, Nat.reduceLeDiff, reduceCtorEq, m1, m2, p1, p2, c1', purify, unownT, AV.hf]
theorem may3_px (n : Ino) (m : AV) (hm : MapR m n.map) (H : Heap) : pcx (cbL tab) 118 [inoA n m] H = some (.plain (.bool (decide ((1 ≤ (n.target.size : Int) ∧ (n.target.size : Int) ≤ 112) ∧ flatM n.target.data.toList = true)))) := by
  refine pcx_N rfl (pc_wp (fi := c118) rfl ?_ (by simp [c118]) (by decide) ?_)
  · simp only [pcOn, List.map_cons, List.map_nil, hfL, hf_lend_sl, hf_lend_int, hf_lend_bool, hf_lend_str, hfL_append, Bool.and_self, Bool.and_true, Bool.true_and, c118, lend_inoA hm, hf_inoA hm]
  unfold c118
  rw [List.map_cons, List.map_nil, lend_inoA hm]
  have m1 := hm.one.1
  have m2 := hm.one.2
  have p1 := fun H => ini_px n.target.size 1 112 H
  have p2 := fun H => contains0_px n.target H
  simp only [inoA]
  by_cases c1 : 1 ≤ (n.target.size : Int) ∧ (n.target.size : Int) ≤ 112
  · cases c2 : flatM n.target.data.toList
    · simp (disch := omega) only [wk, avalE, aactE, evPE, boundE, asNat, bv_seql cellsEq_ii, bv_sneqd cellsEq_ii, readC, allOne, fillL, resE, tupled, ↓reduceIte, Nat.reduceEqDiff, Int.reduceEq, Int.reduceLT, Int.reduceLE, Nat.reduceAdd, Nat.reduceMul, Nat.reduceLT, Nat.reduceLeDiff, reduceCtorEq, m1, m2, p1, p2, c1, c2, purify, unownT, AV.hf, Bool.false_eq_true, and_false]
    · simp (disch := omega) only [wk, avalE, aactE, evPE, boundE, asNat, bv_seql cellsEq_ii, bv_sneqd cellsEq_ii, readC, allOne, fillL, resE, tupled, ↓reduceIte, Nat.reduceEqDiff, Int.reduceEq, Int.reduceLT, Int.reduceLE, Nat.reduceAdd, Nat.reduceMul, Nat.reduceLT, Nat.reduceLeDiff, reduceCtorEq, m1, m2, p1, p2, c1, c2, purify, unownT, AV.hf]
  · have c1' : decide (1 ≤ (n.target.size : Int) ∧ (n.target.size : Int) ≤ 112) = false := decide_eq_false c1
    have e : decide ((1 ≤ (n.target.size : Int) ∧ (n.target.size : Int) ≤ 112) ∧ flatM n.target.data.toList = true) = false := decide_eq_false (fun h => c1 h.1)
    rw [e]
    clear c1
    simp (disch := omega) only [wk, avalE, aactE, evPE, boundE, asNat, bv_seql cellsEq_ii, bv_sneqd cellsEq_ii, readC, allOne, fillL, resE, tupled, ↓reduceIte, Nat.reduceEqDiff, Int.reduceEq, Int.reduceLT, Int.reduceLE, Nat.reduceAdd, Nat.reduceMul, Nat.reduceLT, Nat.reduceLeDiff, reduceCtorEq, m1, m2, p1, p2, c1', purify, unownT, AV.hf]
end Go.Proofs.Ytncmflmjlocgiaa
