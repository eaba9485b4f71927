/- SEALED WORDS; A LAYOUT'S WORDS. No condition but those stated. -/
import Derived.Test.YtailfegmnkldoaaKS
set_option linter.unusedSimpArgs false
set_option linter.unusedVariables false
set_option linter.unusedSectionVars false
namespace Go.Proofs.Ytailfegmnkldoaa
open Go Go.Am Go.Rec
set_option maxHeartbeats 4000000
set_option maxRecDepth 10000
theorem repL_u64 (m : Nat) : repL m [AV.int .u64 0] = encs u64A (List.replicate m 0) := by
  induction m with
  | zero => rfl
  | succ m ih => rw [repL, ih, List.replicate_succ, encs_cons]; rfl
theorem appz_row (l : List Int) (g : Nat) (H : Heap) (hl : l.length ≤ 64) (hg : H[g]? = some (.tok 1)) (h0 : l ≠ []) :
    ∃ v' H', appzV 1 8 [.int .u64 0] (.sl 1 l.length (encs u64A l) (.own g)) (.int .i64 (64 - (l.length : Int))) H = some (.val v', H') ∧ Own H' 1 v' (l ++ List.replicate (64 - l.length) 0).length (encs u64A (l ++ List.replicate (64 - l.length) 0)) ∧ (∀ s n c, v' ≠ .sl s n c .e) := by
  have hp : l.length ≠ 0 := fun h => h0 (List.length_eq_zero_iff.1 h)
  have hm : madeN 1 8 [.int .u64 0] (.int .i64 (64 - (l.length : Int))) (.int .i64 (64 - (l.length : Int))) = some (64 - l.length) := by
    have e : (64 - (l.length : Int)).toNat = 64 - l.length := by omega
    simp only [madeN, e]
    rw [if_pos ⟨trivial, by omega, rfl, rfl, by omega, by omega⟩]
  by_cases hm0 : 64 - l.length = 0
  · refine ⟨.sl 1 l.length (encs u64A l) (.own g), H, ?_, ?_, by intro s n c h; cases h⟩
    · simp only [appzV, hm, hm0, appV]
      have h1 : l.length * 8 ≤ 70368744177664 := by omega
      simp [h1]
      omega
    · rw [hm0, List.replicate_zero, List.append_nil]
      exact .inr ⟨hp, g, rfl, hg⟩
  · refine ⟨.sl 1 (l.length + (64 - l.length)) (encs u64A l ++ repL (64 - l.length) [.int .u64 0]) (.own H.length), H.set g .dead ++ [.tok 1], ?_, ?_, by intro s n c h; cases h⟩
    · simp only [appzV, hm, appV, repL_u64]
      have h1 : (l.length + (64 - l.length)) * 8 ≤ 70368744177664 := by omega
      have h2 : l.length + (64 - l.length) ≤ 70368744177664 := by omega
      have h3 : (64 - l.length) * 1 ≤ (encs u64A (List.replicate (64 - l.length) 0)).length := by rw [lenU, List.length_replicate]; omega
      have h4 : (encs u64A (List.replicate (64 - l.length) 0)).take ((64 - l.length) * 1) = encs u64A (List.replicate (64 - l.length) 0) := List.take_of_length_le (by rw [lenU, List.length_replicate]; omega)
      simp only [hm0, h1, h2, h3, h4, one_u64A, hg, Nat.one_pos, and_self, if_true, if_false, true_and, and_true]
    · rw [repL_u64, ← encs_append, List.length_append, List.length_replicate]
      refine .inr ⟨by omega, H.length, rfl, ?_⟩
      rw [List.getElem?_append_right (by simp)]
      simp
theorem prRow_ne {α : Type} {sz : Nat} {f : α → List AV} {l : List α} (h : l ≠ []) : prRow sz f l = .fresh sz l.length (encs f l) := by
  unfold prRow
  have : l.isEmpty = false := by cases l with
    | nil => exact absurd rfl h
    | cons _ _ => rfl
  rw [this]; rfl
theorem padded_ic (l : List Int) (g : Nat) (H : Heap) (hl : l.length ≤ 64) (hg : H[g]? = some (.tok 1)) (h0 : l ≠ []) :
    pcx (cbL tab) 127 [.sl 1 l.length (encs u64A l) (.own g)] H = none ∧ ∃ v' H', (cbL tab).ic 127 [.sl 1 l.length (encs u64A l) (.own g)] H = some (.ret v', H') ∧ Own H' 1 v' (l ++ List.replicate (64 - l.length) 0).length (encs u64A (l ++ List.replicate (64 - l.length) 0)) ∧ (∀ s n c, v' ≠ .sl s n c .e) := by
  have hon : pcOn c127 [.sl 1 l.length (encs u64A l) (.own g)] = false := by
    simp [pcOn, c127, hfL, AV.hf, Tk.hf]
  refine ⟨pcx_none rfl (pc_none (fi := c127) rfl hon), ?_⟩
  have : ∃ o H', (cbL tab).ic 127 [.sl 1 l.length (encs u64A l) (.own g)] H = some (o, H') ∧ ∃ v', o = .ret v' ∧ Own H' 1 v' (l ++ List.replicate (64 - l.length) 0).length (encs u64A (l ++ List.replicate (64 - l.length) 0)) ∧ (∀ s n c, v' ≠ .sl s n c .e) := by
    refine ic_wp (fi := c127) rfl hon (by simp [c127]) (by decide) ?_
    unfold c127
    obtain ⟨v', H', h1, h2, h3⟩ := appz_row l g H hl hg h0
    simp (disch := omega) only [wk, avalE, aactE, evPE, boundE, asNat, bv_seql cellsEq_ii, bv_sneqd cellsEq_ii, readC, allOne, fillL, resE, tupled, ↓reduceIte, Nat.reduceEqDiff, Int.reduceEq, Int.reduceLT, Int.reduceLE, Nat.reduceAdd, Nat.reduceMul, Nat.reduceLT, Nat.reduceLeDiff, reduceCtorEq, h1]
    exact ⟨_, rfl, by rw [← List.length_append]; exact h2, h3⟩
  obtain ⟨o, H', h1, v', rfl, h2, h3⟩ := this
  exact ⟨v', H', h1, h2, h3⟩
theorem lpad : (cbL tab).lent 127 = false := rfl
theorem bytM_ne {l : List Int} (h : l ≠ []) : bytM l ≠ [] := by
  cases l with
  | nil => exact absurd rfl h
  | cons w r => intro e; have := congrArg List.length e; simp [bytM, bytN] at this
theorem wsum_px {l : List Int} (h0 : l ≠ []) (hl : l.length ≤ 100) (hb : (bytM l).length ≤ 100000) (hw : ∀ w ∈ l, U64 w) (tk : Tk) (H : Heap) : pcx (cbL tab) 159 [.sl 1 l.length (encs u64A l) tk] H = some (.plain (.int .u64 (moreM 0 (bytM l)))) := by
  obtain ⟨u1, e1, f1⟩ := lend_sl 1 l.length (encs u64A l) tk
  have hfu : hfL (encs u64A l) = true := hfL_encs (fun _ => rfl) l
  refine pcx_N rfl (pc_wp (fi := c159) rfl ?_ (by simp [c159]) (by decide) ?_)
  · simp only [pcOn, List.map_cons, List.map_nil, hfL, hf_lend_sl, hf_lend_int, hf_lend_bool, hf_lend_str, hfL_append, Bool.and_self, Bool.and_true, Bool.true_and, c159, hfu]
  unfold c159
  rw [List.map_cons, List.map_nil, e1]
  have bp := fun H => bytes_px l [] 1 u1 H hl rfl rfl hw
  rw [List.append_nil, prRow_ne (bytM_ne h0)] at bp
  have sp := fun g H => sum_px (bytM l) hb (.own g) H
  simp (disch := omega) only [wk, avalE, aactE, evPE, boundE, asNat, bv_seql cellsEq_ii, bv_sneqd cellsEq_ii, readC, allOne, fillL, resE, tupled, ↓reduceIte, Nat.reduceEqDiff, Int.reduceEq, Int.reduceLT, Int.reduceLE, Nat.reduceAdd, Nat.reduceMul, Nat.reduceLT, Nat.reduceLeDiff, reduceCtorEq, bp, sp, purify, unownT, lend, unown, AV.hf, hfL]
theorem rzU {xo yo : X} {s n : Nat} {cs : List AV} : binV .eql .slice xo yo (.sl s n cs .ro) (.sl 0 0 [] .z) = some (.bool false) := rfl
theorem cloneU_px {l : List Int} (h0 : l ≠ []) (hl : l.length ≤ 1000) {tk : Tk} (ht : tk = .ro ∨ ∃ g, tk = .own g) (H : Heap) : pcx (cbL tab) 158 [.sl 1 l.length (encs u64A l) tk] H = some (.fresh 1 l.length (encs u64A l)) := by
  have el : lend (.sl 1 l.length (encs u64A l) tk) = .sl 1 l.length (encs u64A l) .ro := by rcases ht with rfl | ⟨g, rfl⟩ <;> rfl
  have hfu : hfL (encs u64A l) = true := hfL_encs (fun _ => rfl) l
  have n0 : l.length ≠ 0 := fun e => h0 (List.eq_nil_of_length_eq_zero e)
  refine pcx_N rfl (pc_wp (fi := c158) rfl ?_ (by simp [c158]) (by decide) ?_)
  · show hfL [lend _] = true
    rw [el]
    simp [hfL, AV.hf, hfu, Tk.hf]
  unfold c158
  rw [List.map_cons, List.map_nil, el]
  have own0 : Own ([] : Heap) 1 (.sl 1 0 [] .e) 0 [] := .inl ⟨.inr rfl, rfl, rfl⟩
  simp (disch := omega) only [wk, avalE, aactE, evPE, boundE, asNat, bv_seql cellsEq_ii, bv_sneqd cellsEq_ii, readC, allOne, fillL, resE, tupled, ↓reduceIte, Nat.reduceEqDiff, Int.reduceEq, Int.reduceLT, Int.reduceLE, Nat.reduceAdd, Nat.reduceMul, Nat.reduceLT, Nat.reduceLeDiff, reduceCtorEq, rzU]
  refine runX_app own0 (by omega) (by omega) (by omega) n0 (by rw [lenU]; omega) (one_u64A _) (fun H2 q1 q2 q3 => ?_)
  simp only [Nat.zero_add, List.nil_append] at q1 ⊢
  simp (disch := omega) only [wk, avalE, aactE, evPE, boundE, asNat, bv_seql cellsEq_ii, bv_sneqd cellsEq_ii, readC, allOne, fillL, resE, tupled, ↓reduceIte, Nat.reduceEqDiff, Int.reduceEq, Int.reduceLT, Int.reduceLE, Nat.reduceAdd, Nat.reduceMul, Nat.reduceLT, Nat.reduceLeDiff, reduceCtorEq]
  rw [← prRow_ne (f := u64A) (sz := 1) h0]
  exact purify_row (fun _ => rfl) q1 (fun e => absurd e h0)
def sealM (l : List Int) : List Int := l ++ [moreM 0 (bytM l)]
theorem seal_px {l : List Int} (h0 : l ≠ []) (hl : l.length ≤ 100) (hb : (bytM l).length ≤ 100000) (hw : ∀ w ∈ l, U64 w) {tk : Tk} (ht : tk = .ro ∨ ∃ g, tk = .own g) (H : Heap) :
    pcx (cbL tab) 128 [.sl 1 l.length (encs u64A l) tk] H = some (.fresh 1 (sealM l).length (encs u64A (sealM l))) := by
  have el : lend (.sl 1 l.length (encs u64A l) tk) = .sl 1 l.length (encs u64A l) .ro := by rcases ht with rfl | ⟨g, rfl⟩ <;> rfl
  have hfu : hfL (encs u64A l) = true := hfL_encs (fun _ => rfl) l
  have n0 : l.length ≠ 0 := fun e => h0 (List.eq_nil_of_length_eq_zero e)
  refine pcx_N rfl (pc_wp (fi := c128) rfl ?_ (by simp [c128]) (by decide) ?_)
  · show hfL [lend _] = true
    rw [el]
    simp [hfL, AV.hf, hfu, Tk.hf]
  unfold c128
  rw [List.map_cons, List.map_nil, el]
  have cp := fun H => cloneU_px h0 (by omega) (tk := .ro) (.inl rfl) H
  have wp := fun H => wsum_px h0 hl hb hw .ro H
  simp (disch := omega) only [wk, avalE, aactE, evPE, boundE, asNat, bv_seql cellsEq_ii, bv_sneqd cellsEq_ii, readC, allOne, fillL, resE, tupled, ↓reduceIte, Nat.reduceEqDiff, Int.reduceEq, Int.reduceLT, Int.reduceLE, Nat.reduceAdd, Nat.reduceMul, Nat.reduceLT, Nat.reduceLeDiff, reduceCtorEq, cp, wp]
  have ho : Own ([AObj.tok 1] : Heap) 1 (.sl 1 l.length (encs u64A l) (.own 0)) l.length (encs u64A l) := .inr ⟨n0, 0, rfl, rfl⟩
  refine runX_app ho (by omega) (by omega) (by omega) (by omega) rfl rfl (fun H2 q1 q2 q3 => ?_)
  have ee : encs u64A l ++ [.int .u64 (moreM 0 (bytM l))] = encs u64A (sealM l) := by unfold sealM; rw [encs_append]; rfl
  have eln : l.length + 1 = (sealM l).length := by unfold sealM; simp
  rw [ee, eln] at q1 ⊢
  have hne : sealM l ≠ [] := by unfold sealM; simp
  simp (disch := omega) only [wk, avalE, aactE, evPE, boundE, asNat, bv_seql cellsEq_ii, bv_sneqd cellsEq_ii, readC, allOne, fillL, resE, tupled, ↓reduceIte, Nat.reduceEqDiff, Int.reduceEq, Int.reduceLT, Int.reduceLE, Nat.reduceAdd, Nat.reduceMul, Nat.reduceLT, Nat.reduceLeDiff, reduceCtorEq]
  rw [← prRow_ne (f := u64A) (sz := 1) hne]
  exact purify_row (fun _ => rfl) q1 (fun e => absurd e hne)
theorem pc_wpE {tab : FuncId → Option AFun} {f : FuncId} {fi : AFun} {args : List AV} {R : PR → Prop} (ht : tab f = some fi) (hon : pcOn fi args = true) (hl : args.length ≤ fi.np) (hf : fi.body.fits fi.np = true)
    (h : Ret (cbL tab) none fi.np (Go.Am.Ends tab fi.res fun o H => ∃ r, purify (some (o, H)) = some r ∧ R r) [.code fi.body] .normal (argE (args.map lend)) [] []) (hcon : fi.con = none := by rfl) : ∃ r, (cbL tab).pc f args = some r ∧ R r := by
  rw [← EV_fr0 fi.np] at h
  obtain ⟨o, H', h1, r, h2, h3⟩ := body_wp (by rw [List.length_map]; exact hl) hf h
  refine ⟨r, ?_, h3⟩
  apply pc_of
  rw [pcA, ht]
  simp only [hcon]
  simp only [hon, if_true]
  rw [h1, h2]
theorem super_px {f : Frm} (h : okF f) {k0 k1 : Int} (hk0 : U64 k0) (hk1 : U64 k1) : ∃ v, ∀ H, pcx (cbL tab) 74 [.agg (layA f k0 k1)] H = some (.plain (.tup [v, .int .i64 0])) := by
  have hr := fun H => lright_px h k0 k1 H
  obtain ⟨h1, h2, h3, h4, h5, h6, h7, h8, h9, h10, h11⟩ := h
  have w1 : IntKind.u64.wrap f.b = f.b := wrap_u64 (by omega) (by omega)
  have w2 : IntKind.u64.wrap f.i = f.i := wrap_u64 (by omega) (by omega)
  have w3 : IntKind.u64.wrap f.r = f.r := wrap_u64 (by omega) (by omega)
  have w4 : IntKind.u64.wrap f.t = f.t := wrap_u64 (by omega) (by omega)
  generalize hl : [3555397645633865032, f.b, f.i, f.r, f.t, k0, k1] = l
  have hl7 : l.length = 7 := by rw [← hl]; rfl
  have le : encs u64A l = [.int .u64 3555397645633865032, .int .u64 f.b, .int .u64 f.i, .int .u64 f.r, .int .u64 f.t, .int .u64 k0, .int .u64 k1] := by rw [← hl]; rfl
  have hne : l ≠ [] := by rw [← hl]; simp
  have hw : ∀ w ∈ l, U64 w := by
    rw [← hl]
    intro w hw
    simp only [List.mem_cons, List.not_mem_nil, or_false] at hw
    rcases hw with rfl | rfl | rfl | rfl | rfl | rfl | rfl
    · exact ⟨by decide, by decide⟩
    · exact ⟨by omega, by omega⟩
    · exact ⟨by omega, by omega⟩
    · exact ⟨by omega, by omega⟩
    · exact ⟨by omega, by omega⟩
    · exact hk0
    · exact hk1
  have sp := fun H => seal_px hne (by omega) (by rw [bytM_len]; omega) hw (tk := .ro) (.inl rfl) H
  rw [le, hl7] at sp
  have hs8 : (sealM l).length = 8 := by unfold sealM; simp [hl7]
  have hsn : sealM l ≠ [] := by unfold sealM; simp
  have key : ∃ r, (cbL tab).pc 74 [.agg (layA f k0 k1)] = some r ∧ ∃ v, r = .plain (.tup [v, .int .i64 0]) := by
    refine pc_wpE (fi := c74) rfl rfl (by simp [c74]) (by decide) ?_
    unfold c74
    have e1 : lend (.agg (layA f k0 k1)) = .agg (layA f k0 k1) := rfl
    rw [List.map_cons, List.map_nil, e1]
    unfold layA frmA at hr ⊢
    simp only [List.cons_append, List.nil_append] at hr ⊢
    have x0 : 4 + Int.toNat 0 = 4 := rfl
    have x1 : 4 + Int.toNat 1 = 5 := rfl
    obtain ⟨pn, v', H', p1, p2, p3⟩ := padded_ic (sealM l) 2 [.cells [.int .i64 f.b, .int .i64 f.i, .int .i64 f.r, .int .i64 f.t, .int .u64 k0, .int .u64 k1, .int .i64 9, .int .i64 (9 + f.i / 4), .int .i64 (9 + f.i / 4 + f.r / 4), .int .i64 (9 + f.i / 4 + f.r / 4 + 1)], .cells [.int .i64 f.b, .int .i64 f.i, .int .i64 f.r, .int .i64 f.t], .tok 1] (by omega) rfl hsn
    simp (disch := omega) only [wk, avalE, aactE, evPE, boundE, asNat, bv_seql cellsEq_ii, bv_sneqd cellsEq_ii, readC, allOne, fillL, resE, tupled, ↓reduceIte, Nat.reduceEqDiff, Int.reduceEq, Int.reduceLT, Int.reduceLE, Nat.reduceAdd, Nat.reduceMul, Nat.reduceLT, Nat.reduceLeDiff, reduceCtorEq, hr, w1, w2, w3, w4, x0, x1, sp, pn, p1, runE_none lpad]
    have hfu : ∀ l : List Int, hfL (encs u64A l) = true := fun l => hfL_encs (fun _ => rfl) l
    rcases p2 with ⟨_, h, _⟩ | ⟨_, g, rfl, _⟩
    · rw [List.length_append] at h
      omega
    · refine ⟨.plain (.tup [.sl 1 (sealM l ++ List.replicate (64 - (sealM l).length) 0).length (encs u64A (sealM l ++ List.replicate (64 - (sealM l).length) 0)) .ro, .int .i64 0]), ?_, _, rfl⟩
      simp only [purify, unownT, lend, unown, List.map_cons, List.map_nil, AV.hf, hfL, hfu, Tk.hf, Bool.and_self, if_true]
  obtain ⟨r, h1, v, rfl⟩ := key
  exact ⟨v, fun H => pcx_N rfl h1⟩
end Go.Proofs.Ytailfegmnkldoaa
