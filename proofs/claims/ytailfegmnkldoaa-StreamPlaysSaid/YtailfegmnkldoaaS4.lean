/- THE DOCUMENT'S STREAM. No condition but those stated. -/
import Derived.Test.YtailfegmnkldoaaS1
import Derived.Test.YtailfegmnkldoaaS2
set_option linter.unusedSimpArgs false
set_option linter.unusedVariables false
set_option linter.unusedSectionVars false
namespace Go.Proofs.Ytailfegmnkldoaa
open Go Go.Am Go.Nam Go.Stm Go.Rec
set_option maxHeartbeats 4000000
set_option maxRecDepth 10000
theorem pc_wpE {tab : FuncId → Option AFun} {f : FuncId} {fi : AFun} {args : List AV} {R : PR → Prop} (ht : tab f = some fi) (hon : pcOn fi args = true) (hl : args.length ≤ fi.np) (hf : fi.body.fits fi.np = true)
    (h : Ret (cbL tab) none fi.np (Go.Am.Ends tab fi.res fun o H => ∃ r, purify (some (o, H)) = some r ∧ R r) [.code fi.body] .normal (argE (args.map lend)) [] []) (hcon : fi.con = none := by rfl) : ∃ r, (cbL tab).pc f args = some r ∧ R r := by
  rw [← EV_fr0 fi.np] at h
  obtain ⟨o, H', h1, r, h2, h3⟩ := body_wp (by rw [List.length_map]; exact hl) hf h
  refine ⟨r, ?_, h3⟩
  apply pc_of
  rw [pcA, ht]
  simp only [hcon]
  simp only [hon, if_true]
  rw [h1, h2]
def stC (p : List UInt8) (m : Int) (s : St) (pv : AV) : List AV := [.str (bs p), .int .i64 m, .int .u64 s.cursor, pv, .bool s.over, .int .i64 s.errno]
/-- What is handed back of a row. -/
def OkT (l : List Nm) (sz : Nat) (tk : Tk) : Prop := (l ≠ [] → sz = 3) ∧ (tk = .ro ∨ ((tk = .z ∨ tk = .e) ∧ l = []))
theorem OkT.hf {l : List Nm} {sz : Nat} {tk : Tk} (h : OkT l sz tk) : tk.hf = true := by
  rcases h.2 with rfl | ⟨rfl | rfl, _⟩ <;> rfl
theorem OkT.un {l : List Nm} {sz : Nat} {tk : Tk} (h : OkT l sz tk) : unown (.sl sz l.length (encs nmA l) tk) = .sl sz l.length (encs nmA l) tk := by
  rcases h.2 with rfl | ⟨rfl | rfl, _⟩ <;> rfl
theorem st_lend {p : List UInt8} {m : Int} {s : St} {sz : Nat} {tk : Tk} (h : OkT s.told sz tk) : lend (.agg (stC p m s (.sl sz s.told.length (encs nmA s.told) tk))) = .agg (stC p m s (.sl sz s.told.length (encs nmA s.told) tk)) := by
  have hm : ∀ v, (stC p m s v).map unown = stC p m s (unown v) := fun v => rfl
  show AV.agg ((stC p m s _).map unown) = _
  rw [hm, h.un]
theorem rright_px (m : Int) (H : Heap) : pcx (cbL tab) 12 [.int .i64 m] H = some (.plain (.bool (decide (1 ≤ m ∧ m ≤ 64)))) := by
  refine pcx_N rfl (pc_wp (fi := c12) rfl rfl (by simp [c12]) (by decide) ?_)
  unfold c12
  rw [List.map_cons, List.map_nil, lend_int]
  by_cases h1 : 1 ≤ m
  · have e : decide (1 ≤ m ∧ m ≤ 64) = decide (m ≤ 64) := by simp [h1]
    rw [e]
    simp (disch := omega) only [wk, avalE, aactE, evPE, boundE, asNat, bv_seql cellsEq_ii, bv_sneqd cellsEq_ii, readC, allOne, fillL, resE, tupled, ↓reduceIte, Nat.reduceEqDiff, Int.reduceEq, Int.reduceLT, Int.reduceLE, Nat.reduceAdd, Nat.reduceMul, Nat.reduceLT, Nat.reduceLeDiff, reduceCtorEq, h1, purify, unownT, lend, unown, AV.hf, hfL]
  · have e : decide (1 ≤ m ∧ m ≤ 64) = false := by simp [h1]
    rw [e]
    simp (disch := omega) only [wk, avalE, aactE, evPE, boundE, asNat, bv_seql cellsEq_ii, bv_sneqd cellsEq_ii, readC, allOne, fillL, resE, tupled, ↓reduceIte, Nat.reduceEqDiff, Int.reduceEq, Int.reduceLT, Int.reduceLE, Nat.reduceAdd, Nat.reduceMul, Nat.reduceLT, Nat.reduceLeDiff, reduceCtorEq, h1, purify, unownT, lend, unown, AV.hf, hfL]
theorem rcall_px {p : List UInt8} {m : Int} {s : St} {sz : Nat} {tk : Tk} (h : OkT s.told sz tk) (H : Heap) : pcx (cbL tab) 51 [.agg (stC p m s (.sl sz s.told.length (encs nmA s.told) tk))] H = some (.plain (.agg [.int .i64 14, .str (bs p), .str (bs []), .int .i64 0, .int .i64 m, .int .u64 s.cursor, .sl 0 0 [] .z])) := by
  refine pcx_N rfl (pc_wp (fi := c51) rfl ?_ (by simp [c51]) (by decide) ?_)
  · show hfL [lend _] = true
    rw [st_lend h]
    simp [stC, hfL, AV.hf, hf_nmA, h.hf]
  unfold c51
  rw [List.map_cons, List.map_nil, st_lend h]
  unfold stC
  simp (disch := omega) only [wk, avalE, aactE, evPE, boundE, asNat, bv_seql cellsEq_ii, bv_sneqd cellsEq_ii, readC, allOne, fillL, resE, tupled, ↓reduceIte, Nat.reduceEqDiff, Int.reduceEq, Int.reduceLT, Int.reduceLE, Nat.reduceAdd, Nat.reduceMul, Nat.reduceLT, Nat.reduceLeDiff, reduceCtorEq, kemp, purify, unownT, lend, unown, AV.hf, hfL, Tk.hf]
theorem rseek_px {p : List UInt8} {m : Int} {s : St} {sz : Nat} {tk : Tk} (h : OkT s.told sz tk) (k : Int) (H : Heap) : pcx (cbL tab) 17 [.agg (stC p m s (.sl sz s.told.length (encs nmA s.told) tk)), .int .u64 k] H = some (.plain (.agg (stC p m (seekM s k) (.sl sz s.told.length (encs nmA s.told) tk)))) := by
  refine pcx_N rfl (pc_wp (fi := c17) rfl ?_ (by simp [c17]) (by decide) ?_)
  · show hfL [lend _, lend _] = true
    rw [st_lend h]
    simp [stC, hfL, AV.hf, hf_nmA, h.hf, lend_int]
  unfold c17
  rw [List.map_cons, List.map_cons, List.map_nil, st_lend h, lend_int]
  unfold stC seekM
  rcases h.2 with rfl | ⟨rfl | rfl, _⟩
  · simp (disch := omega) only [wk, avalE, aactE, evPE, boundE, asNat, bv_seql cellsEq_ii, bv_sneqd cellsEq_ii, readC, allOne, fillL, resE, tupled, ↓reduceIte, Nat.reduceEqDiff, Int.reduceEq, Int.reduceLT, Int.reduceLE, Nat.reduceAdd, Nat.reduceMul, Nat.reduceLT, Nat.reduceLeDiff, reduceCtorEq, kemp, purify, unownT, lend, unown, AV.hf, hfL, hf_nmA, Tk.hf]
  · simp (disch := omega) only [wk, avalE, aactE, evPE, boundE, asNat, bv_seql cellsEq_ii, bv_sneqd cellsEq_ii, readC, allOne, fillL, resE, tupled, ↓reduceIte, Nat.reduceEqDiff, Int.reduceEq, Int.reduceLT, Int.reduceLE, Nat.reduceAdd, Nat.reduceMul, Nat.reduceLT, Nat.reduceLeDiff, reduceCtorEq, kemp, purify, unownT, lend, unown, AV.hf, hfL, hf_nmA, Tk.hf]
  · simp (disch := omega) only [wk, avalE, aactE, evPE, boundE, asNat, bv_seql cellsEq_ii, bv_sneqd cellsEq_ii, readC, allOne, fillL, resE, tupled, ↓reduceIte, Nat.reduceEqDiff, Int.reduceEq, Int.reduceLT, Int.reduceLE, Nat.reduceAdd, Nat.reduceMul, Nat.reduceLT, Nat.reduceLeDiff, reduceCtorEq, kemp, purify, unownT, lend, unown, AV.hf, hfL, hf_nmA, Tk.hf]
section
variable {cb : CB} {rd : Option Nat} {n : Nat} {Q : KP} {ks : List Kt} {E : Env} {df : List ADf} {H : Heap}
/-- An append of a row that may be empty. -/
theorem runX_app0 {sz bytes s : Nat} {x : AV} {m : Nat} {ds : List AV} {tk : Tk} {n0 : Nat} {cs : List AV} {d : Option Nat} {rest : List AOper} (ho : Own H sz x n0 cs) (hz : 0 < sz) (hb : (n0 + m) * bytes ≤ 70368744177664) (hb2 : n0 + m ≤ 70368744177664)
    (hs : m ≠ 0 → s = sz) (hl : ds.length = m * sz) (h1 : allOne ds = true)
    (k : ∀ v H', Own H' sz v (n0 + m) (cs ++ ds) → Kept (tokOf x) H H' → RR cb rd n Q rest ks (updD E d v) df H') :
    RunX (appV sz bytes x (.sl s m ds tk) H) d rest cb rd n Q ks E df := by
  by_cases hm : m = 0
  · subst hm
    obtain rfl : ds = [] := List.eq_nil_of_length_eq_zero (by rw [hl, Nat.zero_mul])
    have key : appV sz bytes x (.sl s 0 [] tk) H = some (.val x, H) := by
      rcases ho with ⟨rfl | rfl, rfl, rfl⟩ | ⟨h0, g, rfl, hg⟩ <;> simp [appV, hz, hb, hb2]
      all_goals (try omega)
      exact ⟨hb, hb2⟩
    rw [key, runX_val]
    refine k x H ?_ (fun id o h _ => h)
    rw [Nat.add_zero, List.append_nil]
    exact ho
  · obtain rfl := hs hm
    exact runX_app ho hz hb hb2 hm hl h1 (fun H' a b c => k _ _ a b)
end
theorem own_formN {H : Heap} {v : AV} {n : Nat} {cs : List AV} (ho : Own H 3 v n cs) : ∃ s tk, v = .sl s n cs tk ∧ (n ≠ 0 → s = 3) ∧ (n ≠ 0 → ∃ g, tk = .own g) ∧ (n = 0 → tk = .z ∨ tk = .e) := by
  rcases ho with ⟨h | h, hn, hc⟩ | ⟨hn, g, h, _⟩
  · exact ⟨_, _, h, fun h => absurd hn h, fun h => absurd hn h, fun _ => .inl rfl⟩
  · exact ⟨_, _, h, fun h => rfl, fun h => absurd hn h, fun _ => .inr rfl⟩
  · exact ⟨_, _, h, fun _ => rfl, fun _ => ⟨g, rfl⟩, fun h => absurd h hn⟩
theorem keptN {H H' : Heap} {v : AV} {n sz : Nat} {cs : List AV} (ho : Own H sz v n cs) (k : Kept (tokOf v) H H') {i : Nat} {c : List AV} (h : H[i]? = some (.cells c)) : H'[i]? = some (.cells c) := k.cells ho rfl h (fun s e => by cases e)
/-- A stream of the document's, handed back with an error. -/
def RTk (p : List UInt8) (m : Int) (s : St) (no : Int) (r : PR) : Prop := ∃ sz tk, OkT s.told sz tk ∧ r = .plain (.tup [.agg (stC p m s (.sl sz s.told.length (encs nmA s.told) tk)), .int .i64 no])
theorem ans_lend {x : Ac} (hx : x.ok) : lend (.agg x.ans) = .agg x.ans := by
  obtain ⟨_, h2, h3, _⟩ := hx
  have e1 : unown (.sl x.bsz x.bn x.bcs x.btk) = .sl x.bsz x.bn x.bcs x.btk := by cases h : x.btk <;> first | rfl | (rw [h] at h3; cases h3)
  have e2 : unown (.sl x.nsz x.names.length (encs nmA x.names) x.ntk) = .sl x.nsz x.names.length (encs nmA x.names) x.ntk := by cases h : x.ntk <;> first | rfl | (rw [h] at h2; cases h2)
  show AV.agg (x.ans.map unown) = _
  unfold Ac.ans
  simp only [List.map_cons, List.map_nil, e1, e2]
  rfl
theorem ans_hf {x : Ac} (hx : x.ok) : hfL x.ans = true := by
  obtain ⟨_, h2, h3, h4⟩ := hx
  simp [Ac.ans, hfL, AV.hf, hf_nmA, h2, h3, h4]
theorem rtake_pc {p : List UInt8} {m : Int} {s : St} {sz : Nat} {tk : Tk} (h : OkT s.told sz tk) (x : Ac) (hx : x.ok) (hl : s.told.length + x.names.length ≤ 100000) :
    ∃ r, (cbL tab).pc 15 [.agg (stC p m s (.sl sz s.told.length (encs nmA s.told) tk)), .agg x.ans] = some r ∧ RTk p m (takeM s x) (if s.over then 5 else 0) r := by
  refine pc_wpE (fi := c15) rfl ?_ (by simp [c15]) (by decide) ?_
  · show hfL [lend _, lend _] = true
    rw [st_lend h, ans_lend hx]
    simp [stC, hfL, AV.hf, hf_nmA, h.hf, ans_hf hx]
  unfold c15
  rw [List.map_cons, List.map_cons, List.map_nil, st_lend h, ans_lend hx]
  unfold takeM
  have un := h.un
  cases ho : s.over with
  | true =>
    unfold stC Ac.ans
    rw [ho]
    obtain ⟨h1, h2⟩ := h
    rcases h2 with rfl | ⟨rfl | rfl, h2⟩
    · simp (disch := omega) only [wk, avalE, aactE, evPE, boundE, asNat, bv_seql cellsEq_ii, bv_sneqd cellsEq_ii, readC, allOne, fillL, resE, tupled, ↓reduceIte, Nat.reduceEqDiff, Int.reduceEq, Int.reduceLT, Int.reduceLE, Nat.reduceAdd, Nat.reduceMul, Nat.reduceLT, Nat.reduceLeDiff, reduceCtorEq, kemp, purify, unownT, lend, unown, AV.hf, hfL, hf_nmA, Tk.hf]
      exact ⟨_, rfl, sz, _, ⟨h1, .inl rfl⟩, by unfold stC; rw [ho]⟩
    · simp (disch := omega) only [wk, avalE, aactE, evPE, boundE, asNat, bv_seql cellsEq_ii, bv_sneqd cellsEq_ii, readC, allOne, fillL, resE, tupled, ↓reduceIte, Nat.reduceEqDiff, Int.reduceEq, Int.reduceLT, Int.reduceLE, Nat.reduceAdd, Nat.reduceMul, Nat.reduceLT, Nat.reduceLeDiff, reduceCtorEq, kemp, purify, unownT, lend, unown, AV.hf, hfL, hf_nmA, Tk.hf]
      exact ⟨_, rfl, sz, _, ⟨h1, .inr ⟨.inl rfl, h2⟩⟩, by unfold stC; rw [ho]⟩
    · simp (disch := omega) only [wk, avalE, aactE, evPE, boundE, asNat, bv_seql cellsEq_ii, bv_sneqd cellsEq_ii, readC, allOne, fillL, resE, tupled, ↓reduceIte, Nat.reduceEqDiff, Int.reduceEq, Int.reduceLT, Int.reduceLE, Nat.reduceAdd, Nat.reduceMul, Nat.reduceLT, Nat.reduceLeDiff, reduceCtorEq, kemp, purify, unownT, lend, unown, AV.hf, hfL, hf_nmA, Tk.hf]
      exact ⟨_, rfl, sz, _, ⟨h1, .inr ⟨.inr rfl, h2⟩⟩, by unfold stC; rw [ho]⟩
  | false =>
    have fv : floatV [.ptr 1 0] [.ptr 0 4] = true := rfl
    have fv2 : floatV [.ptr 1 7] [] = true := rfl
    by_cases e1 : x.errno = 0
    case neg =>
      have eb : endsB x = true := by unfold endsB; have : (x.errno == 0) = false := by simpa using e1
                                     rw [this]; rfl
      rw [eb]
      unfold stC Ac.ans
      rw [ho]
      obtain ⟨h1, h2⟩ := h
      rcases h2 with rfl | ⟨rfl | rfl, h2⟩
      · simp (disch := omega) only [wk, avalE, aactE, evPE, boundE, asNat, bv_seql cellsEq_ii, bv_sneqd cellsEq_ii, readC, allOne, fillL, resE, tupled, ↓reduceIte, Nat.reduceEqDiff, Int.reduceEq, Int.reduceLT, Int.reduceLE, Nat.reduceAdd, Nat.reduceMul, Nat.reduceLT, Nat.reduceLeDiff, reduceCtorEq, e1, fv, kemp, purify, unownT, lend, unown, AV.hf, hfL, hf_nmA, Tk.hf, Bool.false_eq_true]
        exact ⟨_, rfl, sz, _, ⟨h1, .inl rfl⟩, by unfold stC; rfl⟩
      · simp (disch := omega) only [wk, avalE, aactE, evPE, boundE, asNat, bv_seql cellsEq_ii, bv_sneqd cellsEq_ii, readC, allOne, fillL, resE, tupled, ↓reduceIte, Nat.reduceEqDiff, Int.reduceEq, Int.reduceLT, Int.reduceLE, Nat.reduceAdd, Nat.reduceMul, Nat.reduceLT, Nat.reduceLeDiff, reduceCtorEq, e1, fv, kemp, purify, unownT, lend, unown, AV.hf, hfL, hf_nmA, Tk.hf, Bool.false_eq_true]
        exact ⟨_, rfl, sz, _, ⟨h1, .inr ⟨.inl rfl, h2⟩⟩, by unfold stC; rfl⟩
      · simp (disch := omega) only [wk, avalE, aactE, evPE, boundE, asNat, bv_seql cellsEq_ii, bv_sneqd cellsEq_ii, readC, allOne, fillL, resE, tupled, ↓reduceIte, Nat.reduceEqDiff, Int.reduceEq, Int.reduceLT, Int.reduceLE, Nat.reduceAdd, Nat.reduceMul, Nat.reduceLT, Nat.reduceLeDiff, reduceCtorEq, e1, fv, kemp, purify, unownT, lend, unown, AV.hf, hfL, hf_nmA, Tk.hf, Bool.false_eq_true]
        exact ⟨_, rfl, sz, _, ⟨h1, .inr ⟨.inr rfl, h2⟩⟩, by unfold stC; rfl⟩
    by_cases e2 : x.names = []
    · have eb : endsB x = true := by unfold endsB; rw [e1, e2]; rfl
      have e3 : (x.names.length : Int) = 0 := by rw [e2]; rfl
      rw [eb]
      unfold stC Ac.ans
      rw [ho, e1]
      obtain ⟨h1, h2⟩ := h
      rcases h2 with rfl | ⟨rfl | rfl, h2⟩
      · simp (disch := omega) only [wk, avalE, aactE, evPE, boundE, asNat, bv_seql cellsEq_ii, bv_sneqd cellsEq_ii, readC, allOne, fillL, resE, tupled, ↓reduceIte, Nat.reduceEqDiff, Int.reduceEq, Int.reduceLT, Int.reduceLE, Nat.reduceAdd, Nat.reduceMul, Nat.reduceLT, Nat.reduceLeDiff, reduceCtorEq, e3, fv, kemp, purify, unownT, lend, unown, AV.hf, hfL, hf_nmA, Tk.hf, Bool.false_eq_true]
        exact ⟨_, rfl, sz, _, ⟨h1, .inl rfl⟩, by unfold stC; rfl⟩
      · simp (disch := omega) only [wk, avalE, aactE, evPE, boundE, asNat, bv_seql cellsEq_ii, bv_sneqd cellsEq_ii, readC, allOne, fillL, resE, tupled, ↓reduceIte, Nat.reduceEqDiff, Int.reduceEq, Int.reduceLT, Int.reduceLE, Nat.reduceAdd, Nat.reduceMul, Nat.reduceLT, Nat.reduceLeDiff, reduceCtorEq, e3, fv, kemp, purify, unownT, lend, unown, AV.hf, hfL, hf_nmA, Tk.hf, Bool.false_eq_true]
        exact ⟨_, rfl, sz, _, ⟨h1, .inr ⟨.inl rfl, h2⟩⟩, by unfold stC; rfl⟩
      · simp (disch := omega) only [wk, avalE, aactE, evPE, boundE, asNat, bv_seql cellsEq_ii, bv_sneqd cellsEq_ii, readC, allOne, fillL, resE, tupled, ↓reduceIte, Nat.reduceEqDiff, Int.reduceEq, Int.reduceLT, Int.reduceLE, Nat.reduceAdd, Nat.reduceMul, Nat.reduceLT, Nat.reduceLeDiff, reduceCtorEq, e3, fv, kemp, purify, unownT, lend, unown, AV.hf, hfL, hf_nmA, Tk.hf, Bool.false_eq_true]
        exact ⟨_, rfl, sz, _, ⟨h1, .inr ⟨.inr rfl, h2⟩⟩, by unfold stC; rfl⟩
    have nl : x.names.length ≠ 0 := fun e => e2 (List.eq_nil_of_length_eq_zero e)
    have e3 : ¬ (x.names.length : Int) = 0 := by omega
    have eb : endsB x = false := by unfold endsB; rw [e1]; have : x.names.isEmpty = false := by cases h : x.names with
                                      | nil => exact absurd h e2
                                      | cons => rfl
                                    rw [this]; rfl
    rw [eb]
    unfold stC Ac.ans
    rw [ho, e1]
    obtain ⟨h1, h2⟩ := h
    have own0 : ∀ (H : Heap), Own H 3 (.sl 3 0 [] .e) 0 [] := fun H => .inl ⟨.inr rfl, rfl, rfl⟩
    simp (disch := omega) only [wk, avalE, aactE, evPE, boundE, asNat, bv_seql cellsEq_ii, bv_sneqd cellsEq_ii, readC, allOne, fillL, resE, tupled, ↓reduceIte, Nat.reduceEqDiff, Int.reduceEq, Int.reduceLT, Int.reduceLE, Nat.reduceAdd, Nat.reduceMul, Nat.reduceLT, Nat.reduceLeDiff, reduceCtorEq, e3, fv, fv2, kemp, Bool.false_eq_true]
    refine runX_app0 (own0 _) (by omega) (by omega) (by omega) (fun h => h1 (fun e => h (by rw [e]; rfl))) (by rw [lenN]) (one_nmA _) (fun v1 H1 q1 q2 => ?_)
    simp only [Nat.zero_add, List.nil_append] at q1
    have a0 := keptN (own0 _) q2 (i := 0) rfl
    have a1 := keptN (own0 _) q2 (i := 1) rfl
    have a2 := keptN (own0 _) q2 (i := 2) rfl
    simp (disch := omega) only [wk, avalE, aactE, evPE, boundE, asNat, bv_seql cellsEq_ii, bv_sneqd cellsEq_ii, readC, allOne, fillL, resE, tupled, ↓reduceIte, Nat.reduceEqDiff, Int.reduceEq, Int.reduceLT, Int.reduceLE, Nat.reduceAdd, Nat.reduceMul, Nat.reduceLT, Nat.reduceLeDiff, reduceCtorEq, a0, a1, a2]
    refine runX_app0 q1 (by omega) (by omega) (by omega) (fun h => hx.1 e2) (by rw [lenN]) (one_nmA _) (fun v2 H2 r1 r2 => ?_)
    have b0 := keptN q1 r2 a0
    have b1 := keptN q1 r2 a1
    have b2 := keptN q1 r2 a2
    obtain ⟨s3, t3, rfl, h3, h4, _⟩ := own_formN r1
    obtain rfl := h3 (by omega)
    obtain ⟨g, rfl⟩ := h4 (by omega)
    have ee : encs nmA s.told ++ encs nmA x.names = encs nmA (s.told ++ x.names) := (encs_append _ _ _).symm
    have el : s.told.length + x.names.length = (s.told ++ x.names).length := (List.length_append ..).symm
    rw [ee, el]
    have hln : (s.told ++ x.names).length ≠ 0 := by rw [List.length_append]; omega
    have hne : s.told ++ x.names ≠ [] := fun e => hln (by rw [e]; rfl)
    generalize hB : s.told ++ x.names = B at *
    clear r1 r2 q1 q2 a0 a1 a2
    have c0 : ∀ o, (H2.set 0 o)[0]? = some o := fun o => set_eq b0
    have c1 : ∀ o, (H2.set 0 o)[1]? = _ := fun o => (set_ne (by omega)).trans b1
    have c2 : ∀ o, (H2.set 0 o)[2]? = _ := fun o => (set_ne (by omega)).trans b2
    have c3 : ∀ o o', ((H2.set 0 o).set 2 o')[2]? = some o' := fun o o' => set_eq (c2 o)
    simp (disch := omega) only [wk, avalE, aactE, evPE, boundE, asNat, bv_seql cellsEq_ii, bv_sneqd cellsEq_ii, readC, allOne, fillL, resE, tupled, ↓reduceIte, Nat.reduceEqDiff, Int.reduceEq, Int.reduceLT, Int.reduceLE, Nat.reduceAdd, Nat.reduceMul, Nat.reduceLT, Nat.reduceLeDiff, reduceCtorEq, b0, b1, b2, c0, c1, c2, c3, List.set_set, kemp, purify, unownT, lend, unown, AV.hf, hfL, hf_nmA, Tk.hf]
    exact ⟨_, rfl, 3, .ro, ⟨fun _ => rfl, .inl rfl⟩, by unfold stC; rfl⟩
theorem nm_neq {xo yo : X} {a b : Int} {c : ByteArray} : binV .neq (.struct [0, 2, 0]) xo yo (.agg [.int .u64 a, .str c, .int .i64 b]) (.agg [.int .u64 a, .str c, .int .i64 b]) = some (.bool false) := by
  have ke : ∀ a : Int, cellEq 0 (.int .i64 a) (.int .i64 a) = some true := fun a => by show some (a == a) = _; rw [beq_self_eq_true]
  have ku : ∀ a : Int, cellEq 0 (.int .u64 a) (.int .u64 a) = some true := fun a => by show some (a == a) = _; rw [beq_self_eq_true]
  have kb : (c == c) = true := by
    first
      | exact beq_self_eq_true c.data
      | exact decide_eq_true rfl
      | (cases c; simp [BEq.beq])
  have ks : cellEq 2 (.str c) (.str c) = some true := by show some (c == c) = _; rw [kb]
  show (cellsEq _ _ _).map _ = _
  simp only [cellsEq, ke, ku, ks]
  rfl
theorem names_px {l : List Nm} {s1 s2 : Nat} {k1 k2 : Tk} (hl : l.length ≤ 100000) (h1 : l ≠ [] → s1 = 3) (h2 : l ≠ [] → s2 = 3) (H : Heap) :
    pcx (cbL tab) 50 [.sl s1 l.length (encs nmA l) k1, .sl s2 l.length (encs nmA l) k2] H = some (.plain (.bool true)) := by
  obtain ⟨u1, e1, f1⟩ := lend_sl s1 l.length (encs nmA l) k1
  obtain ⟨u2, e2, f2⟩ := lend_sl s2 l.length (encs nmA l) k2
  refine pcx_N rfl (pc_wp (fi := c50) rfl ?_ (by simp [c50]) (by decide) ?_)
  · simp only [pcOn, List.map_cons, List.map_nil, hfL, hf_lend_sl, hf_lend_int, hf_lend_bool, hf_lend_str, hfL_append, Bool.and_self, Bool.and_true, Bool.true_and, c50, hf_nmA]
  unfold c50
  rw [List.map_cons, List.map_cons, List.map_nil, e1, e2]
  simp (disch := omega) only [wk, avalE, aactE, evPE, boundE, asNat, bv_seql cellsEq_ii, bv_sneqd cellsEq_ii, readC, allOne, fillL, resE, tupled, ↓reduceIte, Nat.reduceEqDiff, Int.reduceEq, Int.reduceLT, Int.reduceLE, Nat.reduceAdd, Nat.reduceMul, Nat.reduceLT, Nat.reduceLeDiff, reduceCtorEq]
  refine loop_ind (fun (x : List Nm × List Nm) E df H => l = x.1 ++ x.2 ∧ E 0 = .sl s1 l.length (encs nmA l) u1 ∧ E 1 = .sl s2 l.length (encs nmA l) u2 ∧ E 5 = .int .i64 (x.1.length : Nat) ∧ df = [] ∧ H = [])
    (fun x => x.2.length) ([], l) (by decide) (.inl rfl) ⟨rfl, rfl, rfl, rfl, rfl, rfl⟩ ?_
  intro ⟨pre, suf⟩ E df H ih hP
  obtain ⟨a1, E0, E1, E5, hdf, hH⟩ := hP
  dsimp only at a1 E5
  subst hdf hH
  have la : l.length = pre.length + suf.length := by rw [a1, List.length_append]
  cases suf with
  | nil =>
    have n1 : ¬ (pre.length : Int) < (l.length : Int) := by simp at la; omega
    simp (disch := omega) only [wk, avalE, aactE, evPE, boundE, asNat, bv_seql cellsEq_ii, bv_sneqd cellsEq_ii, readC, allOne, fillL, resE, tupled, ↓reduceIte, Nat.reduceEqDiff, Int.reduceEq, Int.reduceLT, Int.reduceLE, Nat.reduceAdd, Nat.reduceMul, Nat.reduceLT, Nat.reduceLeDiff, reduceCtorEq, E0, E1, E5, n1, purify, unownT, lend, unown, AV.hf, hfL]
  | cons x r =>
    obtain rfl := h1 (by rw [a1]; simp)
    obtain rfl := h2 (by rw [a1]; simp)
    simp only [List.length_cons] at la
    have n1 : (pre.length : Int) < (l.length : Int) := by omega
    have d1 : List.drop (pre.length * 3) (encs nmA l) = .int .u64 x.key :: .str (bs x.name) :: .int .i64 x.inode :: encs nmA r := by
      rw [a1, drop_pre (f := nmA) pre (x :: r)]; rfl
    simp (disch := omega) only [wk, avalE, aactE, evPE, boundE, asNat, bv_seql cellsEq_ii, bv_sneqd cellsEq_ii, readC, allOne, fillL, resE, tupled, ↓reduceIte, Nat.reduceEqDiff, Int.reduceEq, Int.reduceLT, Int.reduceLE, Nat.reduceAdd, Nat.reduceMul, Nat.reduceLT, Nat.reduceLeDiff, reduceCtorEq, E0, E1, E5, n1, d1, nm_neq]
    refine ih (pre ++ [x], r) _ _ _ (by simp) ⟨by simp [a1], by simp only [en, ↓reduceIte, Nat.reduceEqDiff, E0], by simp only [en, ↓reduceIte, Nat.reduceEqDiff, E1], by simp only [en, ↓reduceIte, Nat.reduceEqDiff], rfl, rfl⟩
end Go.Proofs.Ytailfegmnkldoaa
