/- THE SUM OF BYTES. No condition but those stated. -/
import Derived.Test.YtailfegmnkldoaaKX
set_option linter.unusedSimpArgs false
set_option linter.unusedVariables false
set_option linter.unusedSectionVars false
namespace Go.Proofs.Ytailfegmnkldoaa
open Go Go.Am Go.Rec
set_option maxHeartbeats 4000000
set_option maxRecDepth 10000
def v0M (k0 k1 : Int) : V4 := ⟨xorI k0 8317987319222330741, xorI k1 7237128888997146477, xorI k0 7816392313619706465, xorI k1 8387220255154660723⟩
theorem v0M_ok {k0 k1 : Int} (h0 : U64 k0) (h1 : U64 k1) : (v0M k0 k1).ok := ⟨h0.x ⟨by decide, by decide⟩, h1.x ⟨by decide, by decide⟩, h0.x ⟨by decide, by decide⟩, h1.x ⟨by decide, by decide⟩⟩
theorem in_new {args : List AV} {H : Heap} : pcx (cbL tab) 164 args H = none := pcx_none rfl (pc_none (fi := c164) rfl rfl)
theorem ll_new : (cbL tab).lent 164 = false := rfl
theorem new_ic {k0 k1 : Int} (h0 : U64 k0) (h1 : U64 k1) (H : Heap) : (cbL tab).ic 164 [.agg [.int .u64 k0, .int .u64 k1]] H = some (.ret (.ptr (H.length + 1) 0), H ++ [.cells [.int .u64 k0, .int .u64 k1], .cells (vA (v0M k0 k1) [.sl 0 0 [] .z, .int .i64 0, .bool true])]) := by
  have x1 : ∀ {xo yo : X} {ek : EqK}, binV .xor ek xo yo (.int .u64 k0) (.int .u64 8317987319222330741) = _ := fun {xo yo ek} => u64_xor h0.1 h0.2 (by decide) (by decide)
  have x2 : ∀ {xo yo : X} {ek : EqK}, binV .xor ek xo yo (.int .u64 k1) (.int .u64 7237128888997146477) = _ := fun {xo yo ek} => u64_xor h1.1 h1.2 (by decide) (by decide)
  have x3 : ∀ {xo yo : X} {ek : EqK}, binV .xor ek xo yo (.int .u64 k0) (.int .u64 7816392313619706465) = _ := fun {xo yo ek} => u64_xor h0.1 h0.2 (by decide) (by decide)
  have x4 : ∀ {xo yo : X} {ek : EqK}, binV .xor ek xo yo (.int .u64 k1) (.int .u64 8387220255154660723) = _ := fun {xo yo ek} => u64_xor h1.1 h1.2 (by decide) (by decide)
  have g0 : ∀ (L : List AObj), (H ++ L)[H.length]? = L[0]? := fun L => by rw [List.getElem?_append_right (by omega)]; congr 1; omega
  have t0 : Int.toNat 0 = 0 := rfl
  have t1 : Int.toNat 1 = 1 := rfl
  have : ∃ o H', (cbL tab).ic 164 [.agg [.int .u64 k0, .int .u64 k1]] H = some (o, H') ∧ o = .ret (.ptr (H.length + 1) 0) ∧ H' = H ++ [.cells [.int .u64 k0, .int .u64 k1], .cells (vA (v0M k0 k1) [.sl 0 0 [] .z, .int .i64 0, .bool true])] := by
    refine ic_wp (fi := c164) rfl rfl (by simp [c164]) (by decide) ?_
    unfold c164 vA v0M
    simp (disch := omega) only [wk, avalE, aactE, evPE, boundE, asNat, bv_seql cellsEq_ii, bv_sneqd cellsEq_ii, readC, allOne, fillL, resE, tupled, ↓reduceIte, Nat.reduceEqDiff, Int.reduceEq, Int.reduceLT, Int.reduceLE, Nat.reduceAdd, Nat.reduceMul, Nat.reduceLT, Nat.reduceLeDiff, reduceCtorEq, x1, x2, x3, x4, g0, t0, t1, List.append_assoc]
  obtain ⟨o, H', h, rfl, rfl⟩ := this
  exact h
/-- The last word: what is left, noughts, how many there were. -/
def lastM (T : List UInt8) (n : Nat) : List UInt8 := T ++ List.replicate (7 - T.length) 0 ++ [UInt8.ofNat n]
theorem lastM_len {T : List UInt8} (h : T.length ≤ 7) (n : Nat) : (lastM T n).length = 8 := by
  unfold lastM
  simp
  omega
def sumV (v : V4) (w : Int) : V4 := takeM v w
def finM (u : V4) : Int := xorI (xorI (xorI u.a u.b) u.c) u.d
def ffM (v : V4) : V4 := ⟨v.a, v.b, xorI v.c 255, v.d⟩
theorem ffM_ok {v : V4} (h : v.ok) : (ffM v).ok := ⟨h.1, h.2.1, h.2.2.1.x ⟨by decide, by decide⟩, h.2.2.2⟩
theorem finM_ok {v : V4} (h : v.ok) : U64 (finM v) := ((h.1.x h.2.1).x h.2.2.1).x h.2.2.2
theorem in_ssum {args : List AV} {H : Heap} : pcx (cbL tab) 166 args H = none := pcx_none rfl (pc_none (fi := c166) rfl rfl)
theorem ll_ssum : (cbL tab).lent 166 = false := rfl
theorem repL_u8 (m : Nat) : repL m [AV.int .u8 0] = encs byA (List.replicate m 0) := by
  induction m with
  | zero => rfl
  | succ m ih => rw [repL, ih, List.replicate_succ, encs_cons]; rfl
theorem ssum_ic {H : Heap} {a : Nat} {v : V4} (hv : v.ok) {T : List UInt8} (hT : T.length ≤ 7) {tk : Tk} {n : Nat} (hn : n ≤ 100000) (ha : H[a]? = some (.cells (vA v [.sl 1 T.length (encs byA T) tk, .int .i64 (n : Nat), .bool true]))) :
    ∃ H', (cbL tab).ic 166 [.ptr a 0] H = some (.ret (.int .u64 (finM (roundsM 4 (ffM (takeM v (wordM (lastM T n))))))), H') := by
  have hlt := (List.getElem?_eq_some_iff.1 ha).1
  have nn := none_ic ha
  have a1 : ∀ M : List AObj, (H ++ M)[a]? = _ := fun M => (List.getElem?_append_left hlt).trans ha
  have g0 : ∀ (M : List AObj), (H ++ M)[H.length]? = M[0]? := fun M => by rw [List.getElem?_append_right (by omega)]; congr 1; omega
  have s0 : ∀ (L : List AObj) (o : AObj), (H ++ L).set H.length o = H ++ L.set 0 o := fun L o => by rw [List.set_append_right _ _ (by omega)]; congr 2; omega
  have key : ∃ o H', (cbL tab).ic 166 [.ptr a 0] H = some (o, H') ∧ o = .ret (.int .u64 (finM (roundsM 4 (ffM (takeM v (wordM (lastM T n))))))) := by
    refine ic_wp (fi := c166) rfl rfl (by simp [c166]) (by decide) ?_
    unfold c166
    have a1' := a1
    have ha' := ha
    unfold vA at a1' ha'
    generalize hZ : List.replicate (8 - T.length) (0 : UInt8) = Z
    have hZl : Z.length = 8 - T.length := by rw [← hZ]; simp
    have hmd : madeN 1 1 [.int .u8 0] (.int .i64 (8 - (T.length : Int))) (.int .i64 (8 - (T.length : Int))) = some (8 - T.length) := by
      have e : (8 - (T.length : Int)).toNat = 8 - T.length := by omega
      simp only [madeN, e]
      rw [if_pos ⟨trivial, by omega, rfl, rfl, by omega, by omega⟩]
    have rl : repL (8 - T.length) [AV.int .u8 0] = encs byA Z := by rw [repL_u8, hZ]
    have hne : T ++ Z ≠ [] := fun e => by have := congrArg List.length e; rw [List.length_append, hZl] at this; simp at this; omega
    have cc : ∀ H t3, pcx (cbL tab) 185 [.sl 1 2 [.sl 1 T.length (encs byA T) tk, .sl 1 (8 - T.length) (encs byA Z) .e] t3] H = some (.fresh 1 8 (encs byA (T ++ Z))) := fun H t3 => by
      have := conc2 (A := T) (B := Z) (s1 := 1) (s2 := 1) (t1 := tk) (t2 := .e) (t3 := t3) (fun _ => rfl) (fun _ => rfl) hne (by omega) H
      rw [hZl, show (T ++ Z).length = 8 by rw [List.length_append, hZl]; omega] at this
      exact this
    have lb : ∀ L : List UInt8, (encs byA L).length = L.length := fun L => by rw [encs_length (k := 1), Nat.mul_one]
    obtain ⟨C, hC⟩ : ∃ C, encs byA (T ++ Z) = C := ⟨_, rfl⟩
    have hCl : C.length = 8 := by rw [← hC, lb, List.length_append, hZl]; omega
    have hCs : C.all (·.scal) = true := by
      rw [← hC]
      generalize T ++ Z = X
      induction X with
      | nil => rfl
      | cons x r ih => rw [show encs byA (x :: r) = .int .u8 x.toNat :: encs byA r from rfl, List.all_cons, ih]; rfl
    rw [hC] at cc
    have ce : ∀ H, enterM (cbL tab) 185 [.sl 1 2 [.sl 1 T.length (encs byA T) tk, .sl 1 (8 - T.length) (encs byA Z) .e] .ro] H = some (.ret (.msl 1 H.length 0 8), H ++ [.cells C]) := fun H => by
      rw [enterM, cc]
      simp only [hCs, hCl, Bool.true_and, beq_self_eq_true, if_true]
    have h7 : encs byA (T ++ List.replicate (7 - T.length) 0) ++ [.int .u8 0] = C := by
      rw [← hC, ← hZ, show 8 - T.length = (7 - T.length) + 1 by omega, List.replicate_succ', ← List.append_assoc, encs_append byA (T ++ _) [0]]
      rfl
    have wq : IntKind.u8.wrap (n : Int) = ((UInt8.ofNat n).toNat : Nat) := by
      rw [wrap_u8]
      simp
    have hlast : encs byA (lastM T n) = encs byA (T ++ List.replicate (7 - T.length) 0) ++ [.int .u8 ((UInt8.ofNat n).toNat : Nat)] := by
      unfold lastM
      rw [encs_append byA (T ++ _) [_]]
      rfl
    have hl7 : (encs byA (T ++ List.replicate (7 - T.length) 0)).length = 7 := by rw [lb]; simp; omega
    clear cc hC hZ hZl
    generalize encs byA (T ++ List.replicate (7 - T.length) 0) = D at *
    match D, hl7 with
    | [c0, c1, c2, c3, c4, c5, c6], _ =>
    subst h7
    simp only [List.cons_append, List.nil_append] at hlast ce
    have hll := lastM_len hT n
    have hln : lastM T n ≠ [] := fun e => by rw [e] at hll; simp at hll
    have lm : layM (lastM T n) = [wordM (lastM T n)] := by
      rw [layM_ne hln, List.take_of_length_le (by omega), List.drop_eq_nil_of_le (by omega)]
      simp [layM]
    have lp : ∀ G : Heap, G[H.length + 1]? = some (.cells (encs byA (lastM T n))) → pcx (cbL tab) 123 [.msl 1 (H.length + 1) 0 8] G = some (.fresh 1 1 [.int .u64 (wordM (lastM T n))]) := fun G hG => by
      have hid : [AV.msl 1 (H.length + 1) 0 8].map (lendK G 4) = [.sl 1 (lastM T n).length (encs byA (lastM T n)) .ro] := by
        have hml : ∀ L : List UInt8, (encs byA L).map (lendK G 3) = encs byA L := fun L => by
          induction L with
          | nil => rfl
          | cons x r ih => rw [show encs byA (x :: r) = .int .u8 x.toNat :: encs byA r from rfl, List.map_cons, ih]; rfl
        show [lendK G 4 (.msl 1 (H.length + 1) 0 8)] = _
        rw [lendK, hG]
        simp only [Nat.zero_add, Nat.mul_one, List.drop_zero, lb, hll, Nat.le_refl, if_true]
        rw [List.take_of_length_le (by rw [lb, hll]; exact Nat.le_refl _), hml]
      have := pcx_Lrow (cb := cbL tab) (f := 123) rfl hid (lay_pc (lastM T n) .ro (by omega) rfl) (scal_u64 _)
      rw [lm] at this
      exact this
    rw [hlast] at lp
    have hw := word_ok (L := lastM T n) (by omega)
    generalize wordM (lastM T n) = w at *
    have g1 : ∀ (c : AObj) (L : List AObj), (H ++ c :: L)[H.length + 1]? = L[0]? := fun c L => by rw [List.getElem?_append_right (by omega), show H.length + 1 - H.length = 1 by omega]; rfl
    have s1 : ∀ (c : AObj) (L : List AObj) (o : AObj), (H ++ c :: L).set (H.length + 1) o = H ++ c :: L.set 0 o := fun c L o => by rw [List.set_append_right _ _ (by omega), show H.length + 1 - H.length = 1 by omega]; rfl
    have lp2 := lp (H ++ [.cells [.int .u64 v.a, .int .u64 v.b, .int .u64 v.c, .int .u64 v.d], .cells [c0, c1, c2, c3, c4, c5, c6, .int .u8 ((UInt8.ofNat n).toNat : Nat)]]) (g1 _ _)
    obtain ⟨H3, t1, t2, t3⟩ := takes_ic (H := H ++ [.cells (vA v []), .cells [c0, c1, c2, c3, c4, c5, c6, .int .u8 ((UInt8.ofNat n).toNat : Nat)], .tok 1]) (a := H.length) (rest := []) hv (g0 _) hw
    have hv2 := takeM_ok hv hw
    generalize takeM v w = u at *
    obtain ⟨H4, r1, r2, r3⟩ := rounds_ic (H := H3.set H.length (.cells (vA (ffM u) []))) (a := H.length) (rest := []) (ffM_ok hv2) (set_eq t2) 4 (by omega)
    have hv3 := roundsM_ok 4 (ffM_ok hv2)
    generalize roundsM 4 (ffM u) = z at *
    have x1 : ∀ {xo yo : X} {ek : EqK}, binV .xor ek xo yo (.int .u64 u.c) (.int .u64 255) = some (.int .u64 (xorI u.c 255)) := fun {xo yo ek} => u64_xor hv2.2.2.1.1 hv2.2.2.1.2 (by decide) (by decide)
    have y1 := hv3.1.x hv3.2.1
    have y2 := y1.x hv3.2.2.1
    have x2 : ∀ {xo yo : X} {ek : EqK}, binV .xor ek xo yo (.int .u64 z.a) (.int .u64 z.b) = some (.int .u64 (xorI z.a z.b)) := fun {xo yo ek} => u64_xor hv3.1.1 hv3.1.2 hv3.2.1.1 hv3.2.1.2
    have x3 : ∀ {xo yo : X} {ek : EqK}, binV .xor ek xo yo (.int .u64 (xorI z.a z.b)) (.int .u64 z.c) = some (.int .u64 (xorI (xorI z.a z.b) z.c)) := fun {xo yo ek} => u64_xor y1.1 y1.2 hv3.2.2.1.1 hv3.2.2.1.2
    have x4 : ∀ {xo yo : X} {ek : EqK}, binV .xor ek xo yo (.int .u64 (xorI (xorI z.a z.b) z.c)) (.int .u64 z.d) = some (.int .u64 (xorI (xorI (xorI z.a z.b) z.c) z.d)) := fun {xo yo ek} => u64_xor y2.1 y2.2 hv3.2.2.2.1 hv3.2.2.2.2
    unfold finM
    generalize xorI (xorI (xorI z.a z.b) z.c) z.d = q3 at *
    generalize xorI (xorI z.a z.b) z.c = q2 at *
    generalize xorI z.a z.b = q1 at *
    have t0 : Int.toNat 0 = 0 := rfl
    have tt1 : Int.toNat 1 = 1 := rfl
    have tt2 : Int.toNat 2 = 2 := rfl
    have tt3 : Int.toNat 3 = 3 := rfl
    have tt7 : Int.toNat 7 = 7 := rfl
    unfold ffM at r1
    unfold vA at t1 t2 r1 r2
    rw [show ((4 : Nat) : Int) = 4 from rfl] at r1
    simp (disch := omega) only [wk, avalE, aactE, evPE, boundE, asNat, bv_seql cellsEq_ii, bv_sneqd cellsEq_ii, readC, allOne, fillL, resE, tupled, ↓reduceIte, Nat.reduceEqDiff, Int.reduceEq, Int.reduceLT, Int.reduceLE, Nat.reduceAdd, Nat.reduceMul, Nat.reduceLT, Nat.reduceLeDiff, reduceCtorEq, ha', a1', nn, g0, s0, g1, s1, hmd, rl, ce, wq, lp2, t1, t2, r1, r2, x1, x2, x3, x4, t0, tt1, tt2, tt3, tt7, in_none, runE_none ll_none, in_takes, runE_none ll_takes, in_rounds, runE_none ll_rounds, List.append_assoc]
  obtain ⟨o, H', k1, rfl⟩ := key
  exact ⟨H', k1⟩
end Go.Proofs.Ytailfegmnkldoaa
