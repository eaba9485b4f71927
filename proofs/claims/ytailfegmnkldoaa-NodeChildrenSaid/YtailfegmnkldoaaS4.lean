/- THE WALKS OF Read AND OF WHAT LEADS TO IT. No condition but those stated. -/
import Derived.Test.YtailfegmnkldoaaS3
set_option linter.unusedSimpArgs false
set_option linter.unusedVariables false
set_option linter.unusedSectionVars false
namespace Go.Proofs.Ytailfegmnkldoaa
open Go Go.Am Go.Slots
set_option maxHeartbeats 2000000
set_option maxRecDepth 10000
theorem each_px (l r : AV) (H : Heap) : pcx (cbL tab) 69 [l, r] H = none := pcx_none rfl (pc_none (fi := c69) rfl rfl)
theorem each33 (left : Int) (sz n : Nat) (cs : List AV) (tk : Tk) (H : Heap) : (cbL tab).ic 69 [.int .u64 left, .sl sz n cs tk] H = some (.ret (.fn 114 [.ptr (H.length + 1) 0, .ptr H.length 0]), H ++ [.cells [.int .u64 left], .cells [.sl sz n cs tk]]) := by
  have : ∃ o H', (cbL tab).ic 69 [.int .u64 left, .sl sz n cs tk] H = some (o, H') ∧ o = .ret (.fn 114 [.ptr (H.length + 1) 0, .ptr H.length 0]) ∧ H' = H ++ [.cells [.int .u64 left], .cells [.sl sz n cs tk]] := by
    refine ic_wp (fi := c69) rfl rfl (by simp [c69]) (by decide) ?_
    unfold c69
    simp (disch := omega) only [wk, avalE, aactE, evPE, boundE, asNat, bv_seql cellsEq_ii, bv_sneqd cellsEq_ii, readC, allOne, fillL, resE, tupled, ↓reduceIte, Nat.reduceEqDiff, Int.reduceEq, Int.reduceLT, Int.reduceLE, Nat.reduceAdd, Nat.reduceMul, Nat.reduceLT, Nat.reduceLeDiff, reduceCtorEq, List.append_assoc]
  obtain ⟨o, H', h, rfl, rfl⟩ := this
  exact h
theorem runY_app {α : Type} (l : List (Nat × α)) (s : List α) : runY (fun (s : List α) (_ : Nat) x => (s ++ [x], true)) s l = s ++ l.map (·.2) := by
  induction l generalizing s with
  | nil => simp [runY]
  | cons x r ih => simp only [runY, if_true, ih, List.map_cons, List.append_assoc, List.cons_append, List.nil_append]
theorem l33 : (cbL tab).lent 69 = false := rfl
/-- What memory shows of the pairs that were read so far. -/
def RdR (lo : AObj) (s : List (Int × Int)) (H : Heap) : Prop := ∃ v, H[0]? = some (.cells [v]) ∧ Own H 2 v s.length (encs pairA s) ∧ (∀ a b c, v ≠ .sl a b c .e) ∧ H[3]? = some .defd ∧ H[4]? = some lo
theorem RdR.push {lo : AObj} {s : List (Int × Int)} {H : Heap} (h : RdR lo s H) (o : AObj) : RdR lo s (H ++ [o]) := by
  obtain ⟨v, h1, h2, h3, h4, h5⟩ := h
  have up : ∀ (i : Nat) (q : AObj), H[i]? = some q → (H ++ [o])[i]? = some q := fun i q hq => by rw [List.getElem?_append_left (List.getElem?_eq_some_iff.1 hq).1]; exact hq
  exact ⟨v, up _ _ h1, h2.kept (g := none) (fun i q hq _ => up i q hq) (.inl rfl), h3, up _ _ h4, up _ _ h5⟩
theorem RdR.set {lo : AObj} {s : List (Int × Int)} {H : Heap} (h : RdR lo s H) {i : Nat} {cs cs' : List AV} (hi : 5 ≤ i) (hc : H[i]? = some (.cells cs)) : RdR lo s (H.set i (.cells cs')) := by
  obtain ⟨v, h1, h2, h3, h4, h5⟩ := h
  have ne : ∀ j, j ≠ i → (H.set i (.cells cs'))[j]? = H[j]? := fun j hj => List.getElem?_set_ne (fun e => hj e.symm)
  refine ⟨v, by rw [ne _ (by omega)]; exact h1, h2.kept (g := some i) (fun j q hq hj => by rw [ne _ (by simpa using fun e => hj (by rw [e]))]; exact hq) ?_, h3, by rw [ne _ (by omega)]; exact h4, by rw [ne _ (by omega)]; exact h5⟩
  right
  intro e
  rcases h2 with ⟨rfl | rfl, _, _⟩ | ⟨_, g, rfl, hg⟩
  · cases e
  · cases e
  · cases e
    rw [hg] at hc
    cases hc
def readAs : ACode := .region [⟨some 6, .alloc [.int .u64 0, .int .u64 0], none⟩, ⟨none, .store 2 (.t 6) (.t 11), none⟩]
def readBd : ACode := .block 1 (.region [⟨some 12, .load 1 false (.t 4), none⟩, ⟨some 13, .load 2 true (.t 6), none⟩, ⟨some 14, .bslice 2 1 [.int .u64 0, .int .u64 0] [(0, 2, .t 13)], none⟩, ⟨some 15, .append 2 16 (.t 12) (.t 14), none⟩, ⟨none, .store 1 (.t 4) (.t 15), none⟩])
theorem set_ne {H : Heap} {i j : Nat} {o : AObj} (h : i ≠ j) : (H.set i o)[j]? = H[j]? := List.getElem?_set_ne h
theorem set_eq {H : Heap} {i : Nat} {o q : AObj} (h : H[i]? = some q) : (H.set i o)[i]? = some o := by
  rw [List.getElem?_set_self (List.getElem?_eq_some_iff.1 h).1]
theorem read_ys {E : Env} {tm : List AV} (ha : Ag 17 tm E) (E4 : E 4 = .ptr 0 0) : YS 4 5 (fun s : List (Int × Int) => s.length) (fun _ _ _ => True) (RdR (.loop 0 .normal tm [10, 11] readAs readBd)) (fun s _ x => (s ++ [x], true)) := by
  refine ⟨?_, fun s H o h => h.push o, fun s H i cs cs' hi h hc => h.set hi hc⟩
  intro s H j x hk hcnt hj _ hR
  refine ⟨by simpa using hcnt, ?_⟩
  obtain ⟨v, h1, h2, h3, h4, h5⟩ := hR
  have key := yl_wp (tab := tab) (P := fun b H' => b = true ∧ RdR (.loop 0 .normal tm [10, 11] readAs readBd) (s ++ [x]) H' ∧ H.length ≤ H'.length ∧ ∀ i cs, 5 ≤ i → H[i]? = some (.cells cs) → H'[i]? = some (.cells cs))
    (args := [.int .i64 (j : Nat), .agg (pairA x)]) (readLoop_of h5) ha rfl (by decide) (by decide) (by decide) (by decide) (by decide) ?_
  · obtain ⟨b, H', k1, rfl, k2⟩ := key
    exact ⟨H', k1, k2⟩
  have e1 : ∀ o : AObj, (H ++ [o])[H.length]? = some o := fun o => by simp
  unfold readAs
  simp (disch := omega) only [wk, avalE, aactE, evPE, boundE, asNat, bv_seql cellsEq_ii, bv_sneqd cellsEq_ii, readC, allOne, fillL, resE, tupled, ↓reduceIte, Nat.reduceEqDiff, Int.reduceEq, Int.reduceLT, Int.reduceLE, Nat.reduceAdd, Nat.reduceMul, Nat.reduceLT, Nat.reduceLeDiff, reduceCtorEq, updPs_cons, updPs_nil, e1, pairA, List.append_nil]
  have up : ∀ (i : Nat) (q o o' : AObj), H[i]? = some q → ((H ++ [o]).set H.length o')[i]? = some q := fun i q o o' hq => by
    have := (List.getElem?_eq_some_iff.1 hq).1
    rw [set_ne (by omega), List.getElem?_append_left this]
    exact hq
  refine ⟨rfl, rfl, _, _, _, _, _, readLoop_of (up _ _ _ _ h5), ?_⟩
  generalize hH1 : (List.set (H ++ [AObj.cells [AV.int IntKind.u64 0, AV.int IntKind.u64 0]]) H.length _) = H1
  have u1 : ∀ (i : Nat) (q : AObj), H[i]? = some q → H1[i]? = some q := fun i q hq => by rw [← hH1]; exact up _ _ _ _ hq
  have u2 : H1[H.length]? = some (.cells (pairA x)) := by rw [← hH1]; exact set_eq (e1 _)
  have u3 : H1.length = H.length + 1 := by rw [← hH1]; simp
  have w1 : ∀ o, (H1.set 4 o)[0]? = some (.cells [v]) := fun o => by rw [set_ne (by omega)]; exact u1 _ _ h1
  have w2 : ∀ o, (H1.set 4 o)[H.length]? = some (.cells [.int .u64 x.1, .int .u64 x.2]) := fun o => by rw [set_ne (by omega)]; exact u2
  unfold readBd
  simp (disch := omega) only [wk, avalE, aactE, evPE, boundE, asNat, bv_seql cellsEq_ii, bv_sneqd cellsEq_ii, readC, allOne, fillL, resE, tupled, ↓reduceIte, Nat.reduceEqDiff, Int.reduceEq, Int.reduceLT, Int.reduceLE, Nat.reduceAdd, Nat.reduceMul, Nat.reduceLT, Nat.reduceLeDiff, reduceCtorEq, E4, w1, w2, List.append_nil, List.append_nil]
  generalize hlo : AObj.loop 1 _ _ _ _ _ = lo
  have o2 : Own (H1.set 4 lo) 2 v s.length (encs pairA s) := h2.kept (g := some 4) (fun i q hq hi => by rw [set_ne (by simpa using hi)]; exact u1 _ _ hq) (by
    right
    intro e
    rcases h2 with ⟨rfl | rfl, _, _⟩ | ⟨_, g, rfl, hg⟩
    · cases e
    · cases e
    · cases e
      rw [hg] at h5
      cases h5)
  obtain ⟨Hb, hHb⟩ : ∃ Hb, Hb = H1.set 4 lo := ⟨_, rfl⟩
  have w1 := w1 lo
  have w4 : (H1.set 4 lo)[4]? = some lo := set_eq (u1 _ _ h5)
  have w3 : (H1.set 4 lo)[3]? = some .defd := by rw [set_ne (by omega)]; exact u1 _ _ h4
  have w5 : ∀ i cs, 5 ≤ i → H[i]? = some (.cells cs) → (H1.set 4 lo)[i]? = some (.cells cs) := fun i cs hi hc => by rw [set_ne (by omega)]; exact u1 _ _ hc
  have len1 : (H1.set 4 lo).length = H.length + 1 := by rw [List.length_set, u3]
  rw [← hHb] at o2 w1 w3 w4 w5 len1 ⊢
  refine runX_app o2 (by omega) (by omega) (by omega) (by omega) rfl rfl (fun H' q1 q2 q3 => ?_)
  have q0 := q2.cells o2 rfl w1 (by intro s e; cases e)
  have q5 := q2.cells o2 rfl w4 (by intro s e; rw [← hlo] at e; cases e)
  have q6 := q2.cells o2 rfl w3 (by intro s e; cases e)
  simp (disch := omega) only [wk, avalE, aactE, evPE, boundE, asNat, bv_seql cellsEq_ii, bv_sneqd cellsEq_ii, readC, allOne, fillL, resE, tupled, ↓reduceIte, Nat.reduceEqDiff, Int.reduceEq, Int.reduceLT, Int.reduceLE, Nat.reduceAdd, Nat.reduceMul, Nat.reduceLT, Nat.reduceLeDiff, reduceCtorEq, E4, q0, List.append_nil]
  have len2 : H.length < H'.length := by omega
  subst hlo
  refine ⟨rfl, _, _, _, _, _, _, readLoop_of (by rw [set_ne (by omega)]; exact q5), rfl, ⟨_, by rw [set_ne (by omega)]; exact set_eq q0, ?_, (by intro a b c e; cases e), by rw [set_ne (by omega), set_ne (by omega)]; exact q6, ?_⟩, by simp; omega, fun i cs hi hc => ?_⟩
  · have e1 : encs pairA (s ++ [x]) = encs pairA s ++ [.int .u64 x.1, .int .u64 x.2] := by rw [encs_append]; rfl
    rw [e1, List.length_append]
    have k1 := q1.kept (g := some 0) (H' := H'.set 0 (.cells [.sl 2 (s.length + 1) (encs pairA s ++ [.int .u64 x.1, .int .u64 x.2]) (.own Hb.length)])) (fun i q hq hi => by rw [set_ne (by simpa using hi)]; exact hq) (by right; simp only [tokOf, ne_eq, Option.some.injEq]; omega)
    exact k1.kept (g := some 4) (fun i q hq hi => by rw [set_ne (by simpa using hi)]; exact hq) (by right; simp only [tokOf, ne_eq, Option.some.injEq]; omega)
  · rw [set_eq (o := .loop 0 _ _ _ _ _) (by rw [set_ne (by omega)]; exact q5)]; rfl
  · have hne : i ≠ 4 := by omega
    rw [set_ne (by omega), set_ne (by omega)]
    exact q2.cells o2 rfl (w5 _ _ hi hc) (by intro s e; cases e)
def readTl : ACode := .seq (.region [⟨some 16, .load 1 false (.t 4), none⟩, ⟨none, .store 1 (.t 4) (.t 16), none⟩]) .ret
theorem read_end {E : Env} {tm : List AV} (E4 : E 4 = .ptr 0 0) {s : List (Int × Int)} {H2 : Heap} (h2 : RdR (.loop 0 .normal tm [10, 11] readAs readBd) s H2) :
    Ret (cbL tab) none 17 (Am.Ends tab [.cell 4 1 false] fun o H => purify (some (o, H)) = some (prRow 2 pairA s)) [.blk 0, .code readTl] .normal E [.mark 3] (H2.set 4 (.loop 3 .normal tm [10, 11] readAs readBd)) := by
  obtain ⟨v, k1, k2, k3, k4, k5⟩ := h2
  unfold readTl
  have j1 : ∀ o, (H2.set 4 o)[0]? = some (.cells [v]) := fun o => by rw [set_ne (by omega)]; exact k1
  have vone : v.one = true := by rcases k2 with ⟨rfl | rfl, _⟩ | ⟨_, g, rfl, _⟩ <;> rfl
  have vflat : v.flat = [v] := by rcases k2 with ⟨rfl | rfl, _⟩ | ⟨_, g, rfl, _⟩ <;> rfl
  have j3 : ((H2.set 4 (.loop 3 .normal tm [10, 11] readAs readBd)).set 0 (.cells [v]))[3]? = some .defd := by rw [set_ne (by omega), set_ne (by omega)]; exact k4
  have j4 : (((H2.set 4 (.loop 3 .normal tm [10, 11] readAs readBd)).set 0 (.cells [v])).set 3 .dead)[0]? = some (.cells [v]) := by rw [set_ne (by omega)]; exact set_eq (j1 _)
  simp (disch := omega) only [wk, avalE, aactE, evPE, boundE, asNat, bv_seql cellsEq_ii, bv_sneqd cellsEq_ii, readC, allOne, fillL, resE, tupled, ↓reduceIte, Nat.reduceEqDiff, Int.reduceEq, Int.reduceLT, Int.reduceLE, Nat.reduceAdd, Nat.reduceMul, Nat.reduceLT, Nat.reduceLeDiff, reduceCtorEq, E4, j1, vone, vflat, allOne, Bool.and_self, List.append_nil, ends_mark j3, j4]
  refine purify_row (fun _ => rfl) ?_ (fun _ s n c => k3 s n c)
  exact ((k2.set k5 (by intro s e; cases e)).set (j1 _) (by intro s e; cases e)).set j3 (by intro s e; cases e)
theorem slotsread_no (left : Int) (n : Nat) (cs : List AV) (tk : Tk) (hn : (n : Int) ≤ 9223372036854775807) (hc : hfL cs = true) (hr : ¬ right left n) :
    (cbL tab).pc 64 [.int .u64 left, .sl 1 n cs tk] = some (prRow 2 pairA []) := by
  obtain ⟨u1, e1, f1⟩ := lend_sl 1 n cs tk
  refine pc_wp (fi := c64) rfl ?_ (by simp [c64]) (by decide) ?_
  · simp only [pcOn, List.map_cons, List.map_nil, hfL, hf_lend_sl, hf_lend_int, hf_lend_bool, hf_lend_str, hfL_append, Bool.and_self, Bool.and_true, Bool.true_and, c64, hc]
  unfold c64
  rw [List.map_cons, List.map_cons, List.map_nil, e1, lend_int]
  have a1 := fun H => each_px (.int .u64 left) (.sl 1 n cs u1) H
  have a2 := fun H => each33 left 1 n cs u1 H
  simp (disch := omega) only [wk, avalE, aactE, evPE, boundE, asNat, bv_seql cellsEq_ii, bv_sneqd cellsEq_ii, readC, allOne, fillL, resE, tupled, ↓reduceIte, Nat.reduceEqDiff, Int.reduceEq, Int.reduceLT, Int.reduceLE, Nat.reduceAdd, Nat.reduceMul, Nat.reduceLT, Nat.reduceLeDiff, reduceCtorEq, a1, a2, runE_none l33]
  refine ret_range (f := 114) (caps := [.ptr 2 0, .ptr 1 0]) (by simp only [en, ↓reduceIte, Nat.reduceEqDiff, evE_t]) (fun tm ha => ?_)
  obtain ⟨o, H2, h1, rfl, h2, h3⟩ := each_ic_no (a := 2) (b := 1) (read_ys ha (by simp only [en, ↓reduceIte, Nat.reduceEqDiff])) (s0 := []) (H := [.cells [.sl 0 0 [] .z], .cells [.int .u64 left], .cells [.sl 1 n cs u1], .defd, .loop 0 .normal tm [10, 11] readAs readBd]) (Nat.le_refl _) ⟨_, rfl, .inl ⟨.inl rfl, rfl, rfl⟩, (by intro a b c e; cases e), rfl, rfl⟩ rfl rfl hn hc f1 hr
  exact ⟨_, H2, _, _, _, _, _, _, h1, readLoop_of h2.choose_spec.2.2.2.2, by decide, rfl, read_end (by simp only [en, ↓reduceIte, Nat.reduceEqDiff]) h2⟩
theorem slotsread (left : Int) (ps : List (Int × Int)) (rest : List AV) (tk : Tk) (hc : hfL rest = true) (hr : right left (2 * ps.length)) :
    (cbL tab).pc 64 [.int .u64 left, row ps rest tk] = some (prRow 2 pairA (rdL left ps)) := by
  obtain ⟨u1, e1, f1⟩ := lend_sl 1 (2 * ps.length) (encs pairA ps ++ rest) tk
  refine pc_wp (fi := c64) rfl ?_ (by simp [c64]) (by decide) ?_
  · simp only [pcOn, List.map_cons, List.map_nil, hfL, hf_lend_sl, hf_lend_int, hf_lend_bool, hf_lend_str, hfL_append, Bool.and_self, Bool.and_true, Bool.true_and, c64, hc, row, hf_pairA]
  unfold c64
  rw [List.map_cons, List.map_cons, List.map_nil, row, e1, lend_int]
  have a1 := fun H => each_px (.int .u64 left) (.sl 1 (2 * ps.length) (encs pairA ps ++ rest) u1) H
  have a2 := fun H => each33 left 1 (2 * ps.length) (encs pairA ps ++ rest) u1 H
  simp (disch := omega) only [wk, avalE, aactE, evPE, boundE, asNat, bv_seql cellsEq_ii, bv_sneqd cellsEq_ii, readC, allOne, fillL, resE, tupled, ↓reduceIte, Nat.reduceEqDiff, Int.reduceEq, Int.reduceLT, Int.reduceLE, Nat.reduceAdd, Nat.reduceMul, Nat.reduceLT, Nat.reduceLeDiff, reduceCtorEq, a1, a2, runE_none l33]
  refine ret_range (f := 114) (caps := [.ptr 2 0, .ptr 1 0]) (by simp only [en, ↓reduceIte, Nat.reduceEqDiff, evE_t]) (fun tm ha => ?_)
  obtain ⟨o, H2, h1, rfl, h2, h3⟩ := each_ic (a := 2) (b := 1) (read_ys ha (by simp only [en, ↓reduceIte, Nat.reduceEqDiff])) (s0 := []) (H := [.cells [.sl 0 0 [] .z], .cells [.int .u64 left], .cells [row ps rest u1], .defd, .loop 0 .normal tm [10, 11] readAs readBd]) (Nat.le_refl _) ⟨_, rfl, .inl ⟨.inl rfl, rfl, rfl⟩, (by intro a b c e; cases e), rfl, rfl⟩ rfl rfl hc f1 hr rfl (okRun_any _ _ _)
  rw [runY_app, List.nil_append, eachL_snd] at h2
  exact ⟨_, H2, _, _, _, _, _, _, h1, readLoop_of h2.choose_spec.2.2.2.2, by decide, rfl, read_end (by simp only [en, ↓reduceIte, Nat.reduceEqDiff]) h2⟩
end Go.Proofs.Ytailfegmnkldoaa
