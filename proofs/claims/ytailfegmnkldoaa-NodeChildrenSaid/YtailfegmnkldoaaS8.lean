/- THE WALKS OF put AND Swap. No condition but those stated. -/
import Derived.Test.YtailfegmnkldoaaS7
set_option linter.unusedSimpArgs false
set_option linter.unusedVariables false
set_option linter.unusedSectionVars false
namespace Go.Proofs.Ytailfegmnkldoaa
open Go Go.Am Go.Slots
set_option maxHeartbeats 2000000
set_option maxRecDepth 10000
theorem hf_putA1 (x : Int × Int) : hfL (putA x) = true := rfl
theorem bv_conv {k k' : IntKind} {a : Int} {E : Env} {H : Heap} {x : X} (h : x.evE E = .int k' a) : avalE (.conv (.int k) x) E H = some (.int k (k.wrap a)) := by
  simp only [avalE, h]
/-- The loop of put. -/
theorem put_loop {P : Out → Heap → Prop} (ws : List (Int × Int)) (u : Tk) (l : List (Int × Int)) (v : AV) (H : Heap) (hn : l.length + ws.length ≤ 1000) (ho : Own H 2 v l.length (encs putA l)) (hnz : ∀ a b c, v ≠ .sl a b c .e) (hw : ∀ w ∈ ws, 0 ≤ w.1 ∧ w.1 < 1000000)
    (hP : ∀ v' H', Own H' 2 v' (l ++ ws).length (encs putA (l ++ ws)) → (∀ a b c, v' ≠ .sl a b c .e) → Kept (tokOf v) H H' → H.length ≤ H'.length → P (.ret v') H') :
    Ret (cbL tab) none 28 (Am.Ends tab [.tmp 4] P) [.code c147.body] .normal (argE [v, .sl 1 (2 * ws.length) (encs pairA ws) u]) [] H := by
  unfold c147
  simp (disch := omega) only [wk, avalE, aactE, evPE, boundE, asNat, bv_seql cellsEq_ii, bv_sneqd cellsEq_ii, readC, allOne, fillL, resE, tupled, ↓reduceIte, Nat.reduceEqDiff, Int.reduceEq, Int.reduceLT, Int.reduceLE, Nat.reduceAdd, Nat.reduceMul, Nat.reduceLT, Nat.reduceLeDiff, reduceCtorEq]
  refine loop_ind (fun (x : List (Int × Int) × List (Int × Int)) E df H1 => ws = x.1 ++ x.2 ∧ E 1 = .sl 1 (2 * ws.length) (encs pairA ws) u ∧ E 5 = .int .i64 (2 * (x.1.length : Nat)) ∧ df = [] ∧ Own H1 2 (E 0) (l ++ x.1).length (encs putA (l ++ x.1)) ∧ (∀ a b c, E 0 ≠ .sl a b c .e) ∧
      Kept (tokOf v) H H1 ∧ H.length ≤ H1.length ∧ (tokOf (E 0) = tokOf v ∨ ∃ g, tokOf (E 0) = some g ∧ H.length ≤ g)) (fun x => x.2.length) ([], ws) (by decide) (.inl rfl) ⟨rfl, rfl, rfl, rfl, by (try simp only [en, ↓reduceIte, Nat.reduceEqDiff]); simpa using ho, hnz, fun _ _ h _ => h, Nat.le_refl _, .inl rfl⟩ ?_
  intro ⟨pre, suf⟩ E df H1 ih hP2
  obtain ⟨a1, E1, E5, hdf, ho1, hnz1, hk1, hle1, htk⟩ := hP2
  dsimp only at a1 E5 ho1
  subst hdf a1
  simp only [List.length_append] at hn
  cases suf with
  | nil =>
    simp only [List.append_nil] at hP
    simp (disch := omega) only [wk, avalE, aactE, evPE, boundE, asNat, bv_seql cellsEq_ii, bv_sneqd cellsEq_ii, readC, allOne, fillL, resE, tupled, ↓reduceIte, Nat.reduceEqDiff, Int.reduceEq, Int.reduceLT, Int.reduceLE, Nat.reduceAdd, Nat.reduceMul, Nat.reduceLT, Nat.reduceLeDiff, reduceCtorEq, E1, E5]
    exact hP _ _ ho1 hnz1 hk1 hle1
  | cons x r =>
    simp only [List.length_cons] at hn
    obtain ⟨k, q⟩ := x
    have hx := hw (k, q) (by simp)
    simp only at hx
    have d1 := row_key pre (k, q) r []
    have d2 := row_ptr pre (k, q) r []
    simp only [List.append_nil] at d1 d2
    simp (disch := omega) only [wk, avalE, aactE, evPE, boundE, asNat, bv_seql cellsEq_ii, bv_sneqd cellsEq_ii, readC, allOne, fillL, resE, tupled, ↓reduceIte, Nat.reduceEqDiff, Int.reduceEq, Int.reduceLT, Int.reduceLE, Nat.reduceAdd, Nat.reduceMul, Nat.reduceLT, Nat.reduceLeDiff, reduceCtorEq, E1, E5, d1, d2, List.append_nil, List.append_nil]
    refine runX_app ho1 (by omega) (by simp only [List.length_append]; omega) (by simp only [List.length_append]; omega) (by omega) rfl rfl (fun H' q1 q2 q3 => ?_)
    simp (disch := omega) only [wk, avalE, aactE, evPE, boundE, asNat, bv_seql cellsEq_ii, bv_sneqd cellsEq_ii, readC, allOne, fillL, resE, tupled, ↓reduceIte, Nat.reduceEqDiff, Int.reduceEq, Int.reduceLT, Int.reduceLE, Nat.reduceAdd, Nat.reduceMul, Nat.reduceLT, Nat.reduceLeDiff, reduceCtorEq, E1, E5]
    refine ih (pre ++ [(k, q)], r) _ _ _ (by simp) ?_
    have e1 : encs putA (l ++ (pre ++ [(k, q)])) = encs putA (l ++ pre) ++ [.int .i64 k, .int .u64 q] := by rw [← List.append_assoc, encs_append]; rfl
    refine ⟨by simp, by simp only [en, ↓reduceIte, Nat.reduceEqDiff, E1], ?_, rfl, ?_, ?_, ?_, by omega, ?_⟩
    · simp only [en, ↓reduceIte, Nat.reduceEqDiff]
      first | done | (congr 1 <;> omega)
    · simp only [e1]
      have e2 : (l ++ (pre ++ [(k, q)])).length = (l ++ pre).length + 1 := by simp [Nat.add_assoc]
      rw [e2]
      simp only [en, ↓reduceIte, Nat.reduceEqDiff]
      simpa using q1
    · simp only [en, ↓reduceIte, Nat.reduceEqDiff]
      intro a b c e
      cases e
    · intro i o hi hne
      refine q2 i o (hk1 i o hi hne) ?_
      rcases htk with h | ⟨g, h, hg⟩
      · rw [h]; exact hne
      · rw [h]
        have := (List.getElem?_eq_some_iff.1 hi).1
        simp only [ne_eq, Option.some.injEq]
        omega
    · right
      simp only [en, ↓reduceIte, Nat.reduceEqDiff]
      exact ⟨_, rfl, hle1⟩
theorem put_px0 (ws : List (Int × Int)) (u : Tk) (H : Heap) (hn : ws.length ≤ 1000) (hu : u.hf = true) (hw : ∀ w ∈ ws, 0 ≤ w.1 ∧ w.1 < 1000000) : pcx (cbL tab) 147 [.sl 0 0 [] .z, .sl 1 (2 * ws.length) (encs pairA ws) u] H = some (prRow 2 putA ws) := by
  have hu2 : lend (.sl 1 (2 * ws.length) (encs pairA ws) u) = .sl 1 (2 * ws.length) (encs pairA ws) u := by
    cases u <;> first | rfl | (cases hu)
  refine pcx_N rfl (pc_wp (fi := c147) rfl ?_ (by simp [c147]) (by decide) ?_)
  · simp only [pcOn, List.map_cons, List.map_nil, hfL, hf_lend_sl, hf_lend_int, hf_lend_bool, hf_lend_str, hfL_append, Bool.and_self, Bool.and_true, Bool.true_and, c147, AV.hf, hf_pairA, hu]; rfl
  rw [List.map_cons, List.map_cons, List.map_nil, hu2]
  refine put_loop ws u [] (.sl 0 0 [] .z) [] (by simpa using hn) (.inl ⟨.inl rfl, rfl, rfl⟩) (by intro a b c e; cases e) hw (fun v' H' k1 k2 _ _ => ?_)
  exact purify_row hf_putA1 (by simpa using k1) (fun _ => k2)
theorem l53 : (cbL tab).lent 147 = false := rfl
section
variable {rd : Option Nat} {n : Nat} {Q : KP} {ks : List Kt} {E : Env} {df : List ADf}
/-- A call of put. -/
theorem put_run {ws : List (Int × Int)} {u : Tk} {l : List (Int × Int)} {v : AV} {H : Heap} {d : Option Nat} {rest : List AOper} (hn : l.length + ws.length ≤ 1000) (hws : ws ≠ []) (ho : Own H 2 v l.length (encs putA l)) (hnz : ∀ a b c, v ≠ .sl a b c .e) (hu : u.hf = true) (hw : ∀ w ∈ ws, 0 ≤ w.1 ∧ w.1 < 1000000)
    (h : ∀ v' H', Own H' 2 v' (l ++ ws).length (encs putA (l ++ ws)) → (∀ a b c, v' ≠ .sl a b c .e) → Kept (tokOf v) H H' → H.length ≤ H'.length → RR (cbL tab) rd n Q rest ks (updD E d v') df H') :
    RunE (pcx (cbL tab) 147 [v, .sl 1 (2 * ws.length) (encs pairA ws) u] H) 147 [v, .sl 1 (2 * ws.length) (encs pairA ws) u] H d rest (cbL tab) rd n Q ks E df := by
  have hu2 : lend (.sl 1 (2 * ws.length) (encs pairA ws) u) = .sl 1 (2 * ws.length) (encs pairA ws) u := by
    cases u <;> first | rfl | (cases hu)
  rcases ho with ⟨h0, h1, h2⟩ | ⟨h0, g, hv, hg⟩
  · have hl : l = [] := List.length_eq_zero_iff.1 h1
    subst hl
    rcases h0 with rfl | rfl
    · have key : (cbL tab).pc 147 [.sl 0 0 [] .z, .sl 1 (2 * ws.length) (encs pairA ws) u] = some (prRow 2 putA ws) := by
        refine pc_wp (fi := c147) rfl ?_ (by simp [c147]) (by decide) ?_
        · simp only [pcOn, List.map_cons, List.map_nil, hfL, hf_lend_sl, hf_lend_int, hf_lend_bool, hf_lend_str, hfL_append, Bool.and_self, Bool.and_true, Bool.true_and, c147, AV.hf, hf_pairA, hu]; rfl
        rw [List.map_cons, List.map_cons, List.map_nil, hu2]
        refine put_loop ws u [] (.sl 0 0 [] .z) [] (by simpa using hn) (.inl ⟨.inl rfl, rfl, rfl⟩) hnz hw (fun v' H' k1 k2 _ _ => ?_)
        exact purify_row hf_putA1 (by simpa using k1) (fun _ => k2)
      rw [show AV.sl 0 ([] : List (Int × Int)).length (encs putA []) .z = .sl 0 0 [] .z from rfl, pcx_N l53 key]
      refine runE_row (fun s tk H' k1 k2 k3 k4 k5 => ?_)
      exact h _ _ (by simpa using k2) (by intro a b c e; cases e; exact k3 rfl) (fun i o hi _ => k4 i o hi) k5
    · exact absurd rfl (hnz _ _ _)
  · subst hv
    have hp : pcOn c147 [.sl 2 l.length (encs putA l) (.own g), .sl 1 (2 * ws.length) (encs pairA ws) u] = false := by
      simp [pcOn, c147, hfL, AV.hf, Tk.hf]
    rw [pcx_none l53 (pc_none (fi := c147) rfl hp), runE_none l53]
    obtain ⟨o, H', k0, v', k1, k2, k3, k4, k5⟩ := ic_wp (tab := tab) (f := 147) (fi := c147) (args := [.sl 2 l.length (encs putA l) (.own g), .sl 1 (2 * ws.length) (encs pairA ws) u]) (H := H)
      (P := fun o H' => ∃ v', o = .ret v' ∧ Own H' 2 v' (l ++ ws).length (encs putA (l ++ ws)) ∧ (∀ a b c, v' ≠ .sl a b c .e) ∧ Kept (some g) H H' ∧ H.length ≤ H'.length) rfl hp (by simp [c147]) (by decide)
      (put_loop ws u l _ H hn (.inr ⟨h0, g, rfl, hg⟩) hnz hw (fun v' H' k1 k2 k3 k4 => ⟨v', rfl, k1, k2, k3, k4⟩))
    rw [k0, k1, runO_ret]
    exact h _ _ k2 k3 k4 k5
end
end Go.Proofs.Ytailfegmnkldoaa
