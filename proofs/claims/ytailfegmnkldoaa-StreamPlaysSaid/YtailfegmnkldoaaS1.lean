/- WHAT IS CALLED IN MEMORY; A STREAM IN MEMORY. No condition but those stated. -/
import Derived.Test.YtailfegmnkldoaaSW
import Derived.Test.YtailfegmnkldoaaSM
set_option linter.unusedSimpArgs false
set_option linter.unusedVariables false
set_option linter.unusedSectionVars false
namespace Go.Proofs.Ytailfegmnkldoaa
open Go Go.Am Go.Nam Go.Stm Go.Rec
set_option maxHeartbeats 4000000
set_option maxRecDepth 10000
theorem set_ne {H : Heap} {i j : Nat} {o : AObj} (h : i ≠ j) : (H.set i o)[j]? = H[j]? := List.getElem?_set_ne h
theorem set_eq {H : Heap} {i : Nat} {o q : AObj} (h : H[i]? = some q) : (H.set i o)[i]? = some o := by
  rw [List.getElem?_set_self (List.getElem?_eq_some_iff.1 h).1]
theorem kemp : ByteArray.mk (Array.mk []) = bs [] := rfl
theorem pnn {xo yo : X} : binV .eql .ptr xo yo .nilp .nilp = some (.bool true) := rfl
theorem ppn {xo yo : X} {a o : Nat} : binV .eql .ptr xo yo (.ptr a o) .nilp = some (.bool false) := rfl
theorem runG_un {cb : CB} {rd : Option Nat} {n : Nat} {Q : KP} {ks : List Kt} {E : Env} {df : List ADf} {H : Heap} {b : Bool} {d : Option Nat} {op : AOp} {rest : List AOper} : RunG (.tup []) b d op rest cb rd n Q ks E df H = RR cb rd n Q rest ks (updD E d (.tup [])) df H := rfl
theorem in_none {args : List AV} {H : Heap} : pcx (cbL tab) 52 args H = none := pcx_none rfl (pc_none (fi := c52) rfl rfl)
theorem ll_none : (cbL tab).lent 52 = false := rfl
theorem in_Call {args : List AV} {H : Heap} : pcx (cbL tab) 46 args H = none := pcx_none rfl (pc_none (fi := c46) rfl rfl)
theorem ll_Call : (cbL tab).lent 46 = false := rfl
theorem in_ends {args : List AV} {H : Heap} : pcx (cbL tab) 53 args H = none := pcx_none rfl (pc_none (fi := c53) rfl rfl)
theorem ll_ends : (cbL tab).lent 53 = false := rfl
theorem in_Take {args : List AV} {H : Heap} : pcx (cbL tab) 16 args H = none := pcx_none rfl (pc_none (fi := c16) rfl rfl)
theorem ll_Take : (cbL tab).lent 16 = false := rfl
theorem in_Seek {args : List AV} {H : Heap} : pcx (cbL tab) 18 args H = none := pcx_none rfl (pc_none (fi := c18) rfl rfl)
theorem ll_Seek : (cbL tab).lent 18 = false := rfl
theorem in_Told {args : List AV} {H : Heap} : pcx (cbL tab) 82 args H = none := pcx_none rfl (pc_none (fi := c82) rfl rfl)
theorem ll_Told : (cbL tab).lent 82 = false := rfl
theorem in_Over {args : List AV} {H : Heap} : pcx (cbL tab) 47 args H = none := pcx_none rfl (pc_none (fi := c47) rfl rfl)
theorem ll_Over : (cbL tab).lent 47 = false := rfl
theorem in_Copy {args : List AV} {H : Heap} : pcx (cbL tab) 19 args H = none := pcx_none rfl (pc_none (fi := c19) rfl rfl)
theorem ll_Copy : (cbL tab).lent 19 = false := rfl
theorem in_New {args : List AV} {H : Heap} : pcx (cbL tab) 11 args H = none := pcx_none rfl (pc_none (fi := c11) rfl rfl)
theorem ll_New : (cbL tab).lent 11 = false := rfl
theorem in_told {args : List AV} {H : Heap} : pcx (cbL tab) 48 args H = none := pcx_none rfl (pc_none (fi := c48) rfl rfl)
theorem ll_told : (cbL tab).lent 48 = false := rfl
theorem in_same {args : List AV} {H : Heap} : pcx (cbL tab) 14 args H = none := pcx_none rfl (pc_none (fi := c14) rfl rfl)
theorem ll_same : (cbL tab).lent 14 = false := rfl
def Still (H H' : Heap) : Prop := ∀ (i : Nat) (o : AObj), H[i]? = some o → H'[i]? = some o
theorem Still.refl (H : Heap) : Still H H := fun _ _ h => h
theorem Still.trans {H H' H'' : Heap} (h : Still H H') (k : Still H' H'') : Still H H'' := fun i o e => k i o (h i o e)
theorem Still.app (H L : Heap) : Still H (H ++ L) := fun i o h => by rw [List.getElem?_append_left (List.getElem?_eq_some_iff.1 h).1]; exact h
/-- But for an object memory is as it was. -/
def Keep (a : Nat) (H H' : Heap) : Prop := H.length ≤ H'.length ∧ ∀ (i : Nat) (o : AObj), i ≠ a → H[i]? = some o → H'[i]? = some o
theorem Keep.refl (a : Nat) (H : Heap) : Keep a H H := ⟨Nat.le_refl _, fun _ _ _ h => h⟩
theorem Keep.trans {a : Nat} {H H' H'' : Heap} (h : Keep a H H') (k : Keep a H' H'') : Keep a H H'' := ⟨Nat.le_trans h.1 k.1, fun i o hi hh => k.2 i o hi (h.2 i o hi hh)⟩
theorem Keep.app (a : Nat) (H L : Heap) : Keep a H (H ++ L) := ⟨by simp, fun i o _ h => by rw [List.getElem?_append_left (List.getElem?_eq_some_iff.1 h).1]; exact h⟩
theorem Keep.set (a : Nat) (H : Heap) (o : AObj) : Keep a H (H.set a o) := ⟨by simp, fun i q hi h => by rw [List.getElem?_set_ne (fun e => hi e.symm)]; exact h⟩
def goC (p : List UInt8) (m : Int) (s : St) (pv : AV) : List AV := [.int .i64 14, .str (bs p), .str (bs []), .int .i64 0, .int .i64 m, .int .u64 s.cursor, .sl 0 0 [] .z, pv, .bool s.over, .int .i64 s.errno, .bool true]
/-- A stream in memory. -/
def Sat (H : Heap) (a : Nat) (p : List UInt8) (m : Int) (s : St) : Prop := ∃ sz tk, (s.told ≠ [] → sz = 3) ∧ (tk = .ro ∨ (tk = .z ∧ s.told = [])) ∧ H[a]? = some (.cells (goC p m s (.sl sz s.told.length (encs nmA s.told) tk)))
theorem Sat.still {H H' : Heap} {a : Nat} {p : List UInt8} {m : Int} {s : St} (h : Sat H a p m s) (k : Still H H') : Sat H' a p m s := by
  obtain ⟨sz, tk, h1, h2, h3⟩ := h
  exact ⟨sz, tk, h1, h2, k _ _ h3⟩
theorem Sat.keep {H H' : Heap} {a b : Nat} {p : List UInt8} {m : Int} {s : St} (h : Sat H a p m s) (k : Keep b H H') (hab : a ≠ b) : Sat H' a p m s := by
  obtain ⟨sz, tk, h1, h2, h3⟩ := h
  exact ⟨sz, tk, h1, h2, k.2 _ _ hab h3⟩
theorem none_ic {H : Heap} {a : Nat} {c0 c1 c2 c3 c4 c5 c6 c7 c8 c9 : AV} {b : Bool} (h : H[a]? = some (.cells [c0, c1, c2, c3, c4, c5, c6, c7, c8, c9, .bool b])) : (cbL tab).ic 52 [.ptr a 0] H = some (.ret (.bool !b), H) := by
  have : ∃ o H', (cbL tab).ic 52 [.ptr a 0] H = some (o, H') ∧ o = .ret (.bool !b) ∧ H' = H := by
    refine ic_wp (fi := c52) rfl rfl (by simp [c52]) (by decide) ?_
    unfold c52
    simp (disch := omega) only [wk, avalE, aactE, evPE, boundE, asNat, bv_seql cellsEq_ii, bv_sneqd cellsEq_ii, readC, allOne, fillL, resE, tupled, ↓reduceIte, Nat.reduceEqDiff, Int.reduceEq, Int.reduceLT, Int.reduceLE, Nat.reduceAdd, Nat.reduceMul, Nat.reduceLT, Nat.reduceLeDiff, reduceCtorEq, ppn, h]
  obtain ⟨o, H', h, rfl, rfl⟩ := this
  exact h
theorem new_no {p : List UInt8} {m : Int} (hm : m < 1 ∨ 64 < m) (H : Heap) : (cbL tab).ic 11 [.str (bs p), .int .i64 m] H = some (.ret (.tup [.nilp, .int .i64 2]), H) := by
  have : ∃ o H', (cbL tab).ic 11 [.str (bs p), .int .i64 m] H = some (o, H') ∧ o = .ret (.tup [.nilp, .int .i64 2]) ∧ H' = H := by
    refine ic_wp (fi := c11) rfl rfl (by simp [c11]) (by decide) ?_
    unfold c11
    by_cases h1 : m < 1
    · simp (disch := omega) only [wk, avalE, aactE, evPE, boundE, asNat, bv_seql cellsEq_ii, bv_sneqd cellsEq_ii, readC, allOne, fillL, resE, tupled, ↓reduceIte, Nat.reduceEqDiff, Int.reduceEq, Int.reduceLT, Int.reduceLE, Nat.reduceAdd, Nat.reduceMul, Nat.reduceLT, Nat.reduceLeDiff, reduceCtorEq, h1]
      rw [ret_scp_goto rfl]
      refine ret_again (by decide) (.inl rfl) ?_
      simp (disch := omega) only [wk, avalE, aactE, evPE, boundE, asNat, bv_seql cellsEq_ii, bv_sneqd cellsEq_ii, readC, allOne, fillL, resE, tupled, ↓reduceIte, Nat.reduceEqDiff, Int.reduceEq, Int.reduceLT, Int.reduceLE, Nat.reduceAdd, Nat.reduceMul, Nat.reduceLT, Nat.reduceLeDiff, reduceCtorEq]
      done
    · have h2 : 64 < m := by omega
      simp (disch := omega) only [wk, avalE, aactE, evPE, boundE, asNat, bv_seql cellsEq_ii, bv_sneqd cellsEq_ii, readC, allOne, fillL, resE, tupled, ↓reduceIte, Nat.reduceEqDiff, Int.reduceEq, Int.reduceLT, Int.reduceLE, Nat.reduceAdd, Nat.reduceMul, Nat.reduceLT, Nat.reduceLeDiff, reduceCtorEq, h1, h2]
      rw [ret_scp_goto rfl]
      refine ret_again (by decide) (.inl rfl) ?_
      simp (disch := omega) only [wk, avalE, aactE, evPE, boundE, asNat, bv_seql cellsEq_ii, bv_sneqd cellsEq_ii, readC, allOne, fillL, resE, tupled, ↓reduceIte, Nat.reduceEqDiff, Int.reduceEq, Int.reduceLT, Int.reduceLE, Nat.reduceAdd, Nat.reduceMul, Nat.reduceLT, Nat.reduceLeDiff, reduceCtorEq]
      done
  obtain ⟨o, H', h, rfl, rfl⟩ := this
  exact h
theorem new_ic {p : List UInt8} {m : Int} (h1 : 1 ≤ m) (h2 : m ≤ 64) (H : Heap) : ∃ H', (cbL tab).ic 11 [.str (bs p), .int .i64 m] H = some (.ret (.tup [.ptr H.length 0, .int .i64 0]), H') ∧ Sat H' H.length p m ⟨[], false, 0, 0⟩ ∧ Still H H' := by
  have : ∃ o H', (cbL tab).ic 11 [.str (bs p), .int .i64 m] H = some (o, H') ∧ o = .ret (.tup [.ptr H.length 0, .int .i64 0]) ∧ H' = H ++ [.cells (goC p m ⟨[], false, 0, 0⟩ (.sl 0 0 [] .z))] := by
    refine ic_wp (fi := c11) rfl rfl (by simp [c11]) (by decide) ?_
    unfold c11
    have h1' : ¬ m < 1 := by omega
    have h2' : ¬ 64 < m := by omega
    have g0 : ∀ (L : List AObj), (H ++ L)[H.length]? = L[0]? := fun L => by rw [List.getElem?_append_right (by omega)]; congr 1; omega
    have s0 : ∀ (L : List AObj) (o : AObj), (H ++ L).set H.length o = H ++ L.set 0 o := fun L o => by rw [List.set_append_right _ _ (by omega)]; congr 2; omega
    simp (disch := omega) only [wk, avalE, aactE, evPE, boundE, asNat, bv_seql cellsEq_ii, bv_sneqd cellsEq_ii, readC, allOne, fillL, resE, tupled, ↓reduceIte, Nat.reduceEqDiff, Int.reduceEq, Int.reduceLT, Int.reduceLE, Nat.reduceAdd, Nat.reduceMul, Nat.reduceLT, Nat.reduceLeDiff, reduceCtorEq, h1', h2', g0, s0, kemp]
    rfl
  obtain ⟨o, H', h, rfl, rfl⟩ := this
  exact ⟨_, h, ⟨0, .z, fun h => absurd rfl h, .inr ⟨rfl, rfl⟩, by rw [List.getElem?_append_right (Nat.le_refl _), Nat.sub_self]; rfl⟩, Still.app _ _⟩
theorem call_over {H : Heap} {a : Nat} {p : List UInt8} {m : Int} {s : St} (hs : Sat H a p m s) (ho : s.over = true) : (cbL tab).ic 46 [.ptr a 0] H = some (.ret (.tup [.agg [.int .i64 0, .str (bs []), .str (bs []), .int .i64 0, .int .i64 0, .int .u64 0, .sl 0 0 [] .z], .bool false]), H ++ [.cells [.int .i64 0, .str (bs []), .str (bs []), .int .i64 0, .int .i64 0, .int .u64 0, .sl 0 0 [] .z]]) := by
  obtain ⟨sz, tk, h1, h2, h3⟩ := hs
  unfold goC at h3
  rw [ho] at h3
  have hlt := (List.getElem?_eq_some_iff.1 h3).1
  have g0 : ∀ (L : List AObj), (H ++ L)[H.length]? = L[0]? := fun L => by rw [List.getElem?_append_right (by omega)]; congr 1; omega
  have s0 : ∀ (L : List AObj) (o : AObj), (H ++ L).set H.length o = H ++ L.set 0 o := fun L o => by rw [List.set_append_right _ _ (by omega)]; congr 2; omega
  have a1 : ∀ (L : List AObj), (H ++ L)[a]? = _ := fun L => (List.getElem?_append_left hlt).trans h3
  have n0 := fun L => none_ic (a1 L)
  have n1 := none_ic h3
  have : ∃ o H', (cbL tab).ic 46 [.ptr a 0] H = some (o, H') ∧ o = .ret (.tup [.agg [.int .i64 0, .str (bs []), .str (bs []), .int .i64 0, .int .i64 0, .int .u64 0, .sl 0 0 [] .z], .bool false]) ∧ H' = H ++ [.cells [.int .i64 0, .str (bs []), .str (bs []), .int .i64 0, .int .i64 0, .int .u64 0, .sl 0 0 [] .z]] := by
    refine ic_wp (fi := c46) rfl rfl (by simp [c46]) (by decide) ?_
    unfold c46
    simp (disch := omega) only [wk, avalE, aactE, evPE, boundE, asNat, bv_seql cellsEq_ii, bv_sneqd cellsEq_ii, readC, allOne, fillL, resE, tupled, ↓reduceIte, Nat.reduceEqDiff, Int.reduceEq, Int.reduceLT, Int.reduceLE, Nat.reduceAdd, Nat.reduceMul, Nat.reduceLT, Nat.reduceLeDiff, reduceCtorEq, g0, s0, a1, h3, n0, n1, kemp, in_none, runE_none ll_none, in_Call, runE_none ll_Call, in_ends, runE_none ll_ends, in_Take, runE_none ll_Take, in_Seek, runE_none ll_Seek, in_Told, runE_none ll_Told, in_Over, runE_none ll_Over, in_Copy, runE_none ll_Copy, in_New, runE_none ll_New, in_told, runE_none ll_told, in_same, runE_none ll_same]
  obtain ⟨o, H', h, rfl, rfl⟩ := this
  exact h
theorem call_ic {H : Heap} {a : Nat} {p : List UInt8} {m : Int} {s : St} (hs : Sat H a p m s) (ho : s.over = false) : (cbL tab).ic 46 [.ptr a 0] H = some (.ret (.tup [.agg [.int .i64 14, .str (bs p), .str (bs []), .int .i64 0, .int .i64 m, .int .u64 s.cursor, .sl 0 0 [] .z], .bool true]), H ++ [.cells [.int .i64 14, .str (bs p), .str (bs []), .int .i64 0, .int .i64 m, .int .u64 s.cursor, .sl 0 0 [] .z]]) := by
  obtain ⟨sz, tk, h1, h2, h3⟩ := hs
  unfold goC at h3
  rw [ho] at h3
  have hlt := (List.getElem?_eq_some_iff.1 h3).1
  have g0 : ∀ (L : List AObj), (H ++ L)[H.length]? = L[0]? := fun L => by rw [List.getElem?_append_right (by omega)]; congr 1; omega
  have s0 : ∀ (L : List AObj) (o : AObj), (H ++ L).set H.length o = H ++ L.set 0 o := fun L o => by rw [List.set_append_right _ _ (by omega)]; congr 2; omega
  have a1 : ∀ (L : List AObj), (H ++ L)[a]? = _ := fun L => (List.getElem?_append_left hlt).trans h3
  have n0 := fun L => none_ic (a1 L)
  have n1 := none_ic h3
  have : ∃ o H', (cbL tab).ic 46 [.ptr a 0] H = some (o, H') ∧ o = .ret (.tup [.agg [.int .i64 14, .str (bs p), .str (bs []), .int .i64 0, .int .i64 m, .int .u64 s.cursor, .sl 0 0 [] .z], .bool true]) ∧ H' = H ++ [.cells [.int .i64 14, .str (bs p), .str (bs []), .int .i64 0, .int .i64 m, .int .u64 s.cursor, .sl 0 0 [] .z]] := by
    refine ic_wp (fi := c46) rfl rfl (by simp [c46]) (by decide) ?_
    unfold c46
    have fv : ∀ o o', floatV [.ptr a o] [.ptr H.length o'] = true := fun o o' => by rw [floatV_p (by rw [offP_ptr (by omega)]; rfl)]; exact floatV_nil
    simp (disch := omega) only [wk, avalE, aactE, evPE, boundE, asNat, bv_seql cellsEq_ii, bv_sneqd cellsEq_ii, readC, allOne, fillL, resE, tupled, ↓reduceIte, Nat.reduceEqDiff, Int.reduceEq, Int.reduceLT, Int.reduceLE, Nat.reduceAdd, Nat.reduceMul, Nat.reduceLT, Nat.reduceLeDiff, reduceCtorEq, g0, s0, a1, h3, n0, n1, fv, kemp, in_none, runE_none ll_none, in_Call, runE_none ll_Call, in_ends, runE_none ll_ends, in_Take, runE_none ll_Take, in_Seek, runE_none ll_Seek, in_Told, runE_none ll_Told, in_Over, runE_none ll_Over, in_Copy, runE_none ll_Copy, in_New, runE_none ll_New, in_told, runE_none ll_told, in_same, runE_none ll_same, Bool.false_eq_true]
  obtain ⟨o, H', h, rfl, rfl⟩ := this
  exact h
theorem epn {xo yo : X} {cs : List AV} : binV .eql .ptr xo yo (.eptr cs) .nilp = some (.bool false) := rfl
theorem none_ep {H : Heap} {c0 c1 c2 c3 c4 c5 c6 c7 c8 c9 : AV} {b : Bool} : (cbL tab).ic 52 [.eptr [c0, c1, c2, c3, c4, c5, c6, c7, c8, c9, .bool b]] H = some (.ret (.bool !b), H) := by
  have : ∃ o H', (cbL tab).ic 52 [.eptr [c0, c1, c2, c3, c4, c5, c6, c7, c8, c9, .bool b]] H = some (o, H') ∧ o = .ret (.bool !b) ∧ H' = H := by
    refine ic_wp (fi := c52) rfl rfl (by simp [c52]) (by decide) ?_
    unfold c52
    simp (disch := omega) only [wk, avalE, aactE, evPE, boundE, asNat, bv_seql cellsEq_ii, bv_sneqd cellsEq_ii, readC, allOne, fillL, resE, tupled, ↓reduceIte, Nat.reduceEqDiff, Int.reduceEq, Int.reduceLT, Int.reduceLE, Nat.reduceAdd, Nat.reduceMul, Nat.reduceLT, Nat.reduceLeDiff, reduceCtorEq, epn]
  obtain ⟨o, H', h, rfl, rfl⟩ := this
  exact h
theorem cursor_px {H : Heap} {a : Nat} {p : List UInt8} {m : Int} {s : St} (hs : Sat H a p m s) : pcx (cbL tab) 49 [.ptr a 0] H = some (.plain (.int .u64 s.cursor)) := by
  obtain ⟨sz, tk, h1, h2, h3⟩ := hs
  have hu : unown (.sl sz s.told.length (encs nmA s.told) tk) = .sl sz s.told.length (encs nmA s.told) tk := by rcases h2 with rfl | ⟨rfl, _⟩ <;> rfl
  have hf : tk.hf = true := by rcases h2 with rfl | ⟨rfl, _⟩ <;> rfl
  have hid : [AV.ptr a 0].map (lendK H 4) = [.eptr (goC p m s (.sl sz s.told.length (encs nmA s.told) tk))] := by
    show [lendK H 4 (.ptr a 0)] = _
    rw [lendK, h3]
    have : ((((goC p m s (.sl sz s.told.length (encs nmA s.told) tk)).drop 0).map (lendK H 3)).map unown) = goC p m s (unown (.sl sz s.told.length (encs nmA s.told) tk)) := rfl
    dsimp only
    rw [this, hu]
  refine pcx_L rfl hid (pc_wp (fi := c49) rfl ?_ (by simp [c49]) (by decide) ?_) rfl
  · show (hfL [.eptr _] && hfL [lend (.eptr _)]) = true
    rcases h2 with rfl | ⟨rfl, _⟩ <;> simp [lend, unown, goC, hfL, AV.hf, hf_nmA, Tk.hf]
  unfold c49
  rw [List.map_cons, List.map_nil]
  have el : ∀ cs, lend (.eptr cs) = .eptr cs := fun cs => rfl
  rw [el]
  unfold goC
  simp (disch := omega) only [wk, avalE, aactE, evPE, boundE, asNat, bv_seql cellsEq_ii, bv_sneqd cellsEq_ii, readC, allOne, fillL, resE, tupled, ↓reduceIte, Nat.reduceEqDiff, Int.reduceEq, Int.reduceLT, Int.reduceLE, Nat.reduceAdd, Nat.reduceMul, Nat.reduceLT, Nat.reduceLeDiff, reduceCtorEq, none_ep, in_none, runE_none ll_none, in_Call, runE_none ll_Call, in_ends, runE_none ll_ends, in_Take, runE_none ll_Take, in_Seek, runE_none ll_Seek, in_Told, runE_none ll_Told, in_Over, runE_none ll_Over, in_Copy, runE_none ll_Copy, in_New, runE_none ll_New, in_told, runE_none ll_told, in_same, runE_none ll_same, purify, unownT, lend, unown, AV.hf, hfL]
theorem over_ic {H : Heap} {a : Nat} {p : List UInt8} {m : Int} {s : St} (hs : Sat H a p m s) : (cbL tab).ic 47 [.ptr a 0] H = some (.ret (.tup [.bool s.over, .int .i64 s.errno]), H) := by
  obtain ⟨sz, tk, h1, h2, h3⟩ := hs
  unfold goC at h3
  have n1 := none_ic h3
  have : ∃ o H', (cbL tab).ic 47 [.ptr a 0] H = some (o, H') ∧ o = .ret (.tup [.bool s.over, .int .i64 s.errno]) ∧ H' = H := by
    refine ic_wp (fi := c47) rfl rfl (by simp [c47]) (by decide) ?_
    unfold c47
    simp (disch := omega) only [wk, avalE, aactE, evPE, boundE, asNat, bv_seql cellsEq_ii, bv_sneqd cellsEq_ii, readC, allOne, fillL, resE, tupled, ↓reduceIte, Nat.reduceEqDiff, Int.reduceEq, Int.reduceLT, Int.reduceLE, Nat.reduceAdd, Nat.reduceMul, Nat.reduceLT, Nat.reduceLeDiff, reduceCtorEq, h3, n1, in_none, runE_none ll_none, in_Call, runE_none ll_Call, in_ends, runE_none ll_ends, in_Take, runE_none ll_Take, in_Seek, runE_none ll_Seek, in_Told, runE_none ll_Told, in_Over, runE_none ll_Over, in_Copy, runE_none ll_Copy, in_New, runE_none ll_New, in_told, runE_none ll_told, in_same, runE_none ll_same]
  obtain ⟨o, H', h, rfl, rfl⟩ := this
  exact h
theorem copy_ic {H : Heap} {a : Nat} {p : List UInt8} {m : Int} {s : St} (hs : Sat H a p m s) : ∃ H', (cbL tab).ic 19 [.ptr a 0] H = some (.ret (.ptr H.length 0), H') ∧ Sat H' H.length p m s ∧ Still H H' := by
  obtain ⟨sz, tk, h1, h2, h3⟩ := hs
  have h3' := h3
  unfold goC at h3
  have hlt := (List.getElem?_eq_some_iff.1 h3).1
  have n1 := none_ic h3
  have g0 : ∀ (L : List AObj), (H ++ L)[H.length]? = L[0]? := fun L => by rw [List.getElem?_append_right (by omega)]; congr 1; omega
  have s0 : ∀ (L : List AObj) (o : AObj), (H ++ L).set H.length o = H ++ L.set 0 o := fun L o => by rw [List.set_append_right _ _ (by omega)]; congr 2; omega
  have : ∃ o H', (cbL tab).ic 19 [.ptr a 0] H = some (o, H') ∧ o = .ret (.ptr H.length 0) ∧ H' = H ++ [.cells (goC p m s (.sl sz s.told.length (encs nmA s.told) tk))] := by
    refine ic_wp (fi := c19) rfl rfl (by simp [c19]) (by decide) ?_
    unfold c19 goC
    simp (disch := omega) only [wk, avalE, aactE, evPE, boundE, asNat, bv_seql cellsEq_ii, bv_sneqd cellsEq_ii, readC, allOne, fillL, resE, tupled, ↓reduceIte, Nat.reduceEqDiff, Int.reduceEq, Int.reduceLT, Int.reduceLE, Nat.reduceAdd, Nat.reduceMul, Nat.reduceLT, Nat.reduceLeDiff, reduceCtorEq, h3, n1, g0, s0, kemp, in_none, runE_none ll_none, in_Call, runE_none ll_Call, in_ends, runE_none ll_ends, in_Take, runE_none ll_Take, in_Seek, runE_none ll_Seek, in_Told, runE_none ll_Told, in_Over, runE_none ll_Over, in_Copy, runE_none ll_Copy, in_New, runE_none ll_New, in_told, runE_none ll_told, in_same, runE_none ll_same]
  obtain ⟨o, H', h, rfl, rfl⟩ := this
  exact ⟨_, h, ⟨sz, tk, h1, h2, by rw [List.getElem?_append_right (Nat.le_refl _), Nat.sub_self]; rfl⟩, Still.app _ _⟩
theorem seek_ic {H : Heap} {a : Nat} {p : List UInt8} {m : Int} {s : St} (hs : Sat H a p m s) (k : Int) : ∃ H', (cbL tab).ic 18 [.ptr a 0, .int .u64 k] H = some (.ret (.int .i64 0), H') ∧ Sat H' a p m (seekM s k) ∧ Keep a H H' := by
  obtain ⟨sz, tk, h1, h2, h3⟩ := hs
  unfold goC at h3
  have n1 := none_ic h3
  have a2 : ∀ o, (H.set a o)[a]? = some o := fun o => set_eq h3
  have : ∃ o H', (cbL tab).ic 18 [.ptr a 0, .int .u64 k] H = some (o, H') ∧ o = .ret (.int .i64 0) ∧ H' = H.set a (.cells (goC p m (seekM s k) (.sl sz s.told.length (encs nmA s.told) tk))) := by
    refine ic_wp (fi := c18) rfl rfl (by simp [c18]) (by decide) ?_
    unfold c18 goC seekM
    simp (disch := omega) only [wk, avalE, aactE, evPE, boundE, asNat, bv_seql cellsEq_ii, bv_sneqd cellsEq_ii, readC, allOne, fillL, resE, tupled, ↓reduceIte, Nat.reduceEqDiff, Int.reduceEq, Int.reduceLT, Int.reduceLE, Nat.reduceAdd, Nat.reduceMul, Nat.reduceLT, Nat.reduceLeDiff, reduceCtorEq, h3, n1, a2, List.set_set, in_none, runE_none ll_none, in_Call, runE_none ll_Call, in_ends, runE_none ll_ends, in_Take, runE_none ll_Take, in_Seek, runE_none ll_Seek, in_Told, runE_none ll_Told, in_Over, runE_none ll_Over, in_Copy, runE_none ll_Copy, in_New, runE_none ll_New, in_told, runE_none ll_told, in_same, runE_none ll_same]
  obtain ⟨o, H', h, rfl, rfl⟩ := this
  exact ⟨_, h, ⟨sz, tk, h1, h2, set_eq h3⟩, Keep.set _ _ _⟩
end Go.Proofs.Ytailfegmnkldoaa
