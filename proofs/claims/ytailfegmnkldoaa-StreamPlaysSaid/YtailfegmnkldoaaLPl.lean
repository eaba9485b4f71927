/- THE LAW StreamPlays COMES TO true. No condition but those stated. -/
import Derived.Test.YtailfegmnkldoaaS5
import Derived.Test.YtailfegmnkldoaaAmOpen
set_option linter.unusedSimpArgs false
set_option linter.unusedVariables false
set_option linter.unusedSectionVars false
namespace Go.Proofs.Ytailfegmnkldoaa
open Go Go.Am Go.Nam Go.Stm Go.Rec
set_option maxHeartbeats 4000000
set_option maxRecDepth 10000
theorem bs_back (s : ByteArray) : ∃ l, s = bs l := ⟨s.data.toList, (bs_eta s).symm⟩
theorem ok_bytes {v : AV} (h : OkS (.slice [.int .u8]) v) : ∃ (sz n : Nat) (cs : List AV) (tk : Tk), v = .sl sz n cs tk ∧ tk.hf = true ∧ hfL cs = true := by
  cases h with
  | slnil _ => exact ⟨_, _, _, _, rfl, rfl, rfl⟩
  | sl _ rows hm hl hr =>
    refine ⟨_, _, _, _, rfl, rfl, ?_⟩
    clear hm
    induction rows with
    | nil => rfl
    | cons r rows ih =>
      rw [List.flatten_cons, hfL_append, ih (fun r hr => hl r (List.mem_cons_of_mem _ hr)) (fun r h => hr r (List.mem_cons_of_mem _ h)), Bool.and_true]
      have hr1 := hl r (List.mem_cons_self ..)
      have h2 := hr r (List.mem_cons_self ..)
      match r, hr1 with
      | [v0], _ =>
        have o0 := h2 0 _ _ rfl rfl
        cases o0 with | int _ n0 _ _ =>
        rfl
theorem ok_names {v : AV} (h : OkS (.slice [.int .u64, .str, .int .i64]) v) : ∃ (l : List Nm) (tk : Tk), v = .sl 3 l.length (encs nmA l) tk ∧ tk.hf = true := by
  cases h with
  | slnil _ => exact ⟨[], .z, rfl, rfl⟩
  | sl _ rows hm hl hr =>
    have : ∀ rows : List (List AV), (∀ r ∈ rows, r.length = 3) → (∀ r ∈ rows, ∀ (i : Nat) (s : Sh) (v : AV), [Sh.int .u64, .str, .int .i64][i]? = some s → r[i]? = some v → OkS s v) →
        ∃ l : List Nm, rows.flatten = encs nmA l ∧ l.length = rows.length := by
      intro rows
      induction rows with
      | nil => intro _ _; exact ⟨[], rfl, rfl⟩
      | cons r rows ih =>
        intro h1 h2
        obtain ⟨l, k1, k2⟩ := ih (fun r hr => h1 r (List.mem_cons_of_mem _ hr)) (fun r hr => h2 r (List.mem_cons_of_mem _ hr))
        have hr1 := h1 r (List.mem_cons_self ..)
        have h2 := h2 r (List.mem_cons_self ..)
        match r, hr1 with
        | [v0, v1, v2], _ =>
          have o0 := h2 0 _ _ rfl rfl
          have o1 := h2 1 _ _ rfl rfl
          have o2 := h2 2 _ _ rfl rfl
          cases o0 with | int _ n0 _ _ =>
          cases o1 with | str s1 _ =>
          cases o2 with | int _ n2 _ _ =>
          refine ⟨⟨n0, s1.data.toList, n2⟩ :: l, ?_, by simp [k2]⟩
          rw [List.flatten_cons, k1, encs_cons]
          unfold nmA
          dsimp only
          rw [bs_eta]
    obtain ⟨l, k1, k2⟩ := this rows hl hr
    exact ⟨l, .ro, by rw [k1, k2]; rfl, rfl⟩
theorem ok_acts {v : AV} (h : OkS (.slice [.int .i64, .int .i64, .int .i64, .int .i64, .int .i64, .int .i64, .slice [.int .u8], .str, .slice [.int .u64, .str, .int .i64], .int .u64, .int .u64]) v) :
    ∃ (l : List Ac) (tk : Tk), v = .sl 11 l.length (encs actA l) tk ∧ tk.hf = true ∧ ∀ x ∈ l, x.ok := by
  cases h with
  | slnil _ => exact ⟨[], .z, rfl, rfl, fun x h => by cases h⟩
  | sl _ rows hm hl hr =>
    have : ∀ rows : List (List AV), (∀ r ∈ rows, r.length = 11) → (∀ r ∈ rows, ∀ (i : Nat) (s : Sh) (v : AV), [Sh.int .i64, .int .i64, .int .i64, .int .i64, .int .i64, .int .i64, .slice [.int .u8], .str, .slice [.int .u64, .str, .int .i64], .int .u64, .int .u64][i]? = some s → r[i]? = some v → OkS s v) →
        ∃ l : List Ac, rows.flatten = encs actA l ∧ l.length = rows.length ∧ ∀ x ∈ l, x.ok := by
      intro rows
      induction rows with
      | nil => intro _ _; exact ⟨[], rfl, rfl, fun x h => by cases h⟩
      | cons r rows ih =>
        intro h1 h2
        obtain ⟨l, k1, k2, k3⟩ := ih (fun r hr => h1 r (List.mem_cons_of_mem _ hr)) (fun r hr => h2 r (List.mem_cons_of_mem _ hr))
        have hr1 := h1 r (List.mem_cons_self ..)
        have h2 := h2 r (List.mem_cons_self ..)
        match r, hr1 with
        | [v0, v1, v2, v3, v4, v5, v6, v7, v8, v9, v10], _ =>
          have o0 := h2 0 _ _ rfl rfl
          have o1 := h2 1 _ _ rfl rfl
          have o2 := h2 2 _ _ rfl rfl
          have o3 := h2 3 _ _ rfl rfl
          have o4 := h2 4 _ _ rfl rfl
          have o5 := h2 5 _ _ rfl rfl
          have o6 := h2 6 _ _ rfl rfl
          have o7 := h2 7 _ _ rfl rfl
          have o8 := h2 8 _ _ rfl rfl
          have o9 := h2 9 _ _ rfl rfl
          have o10 := h2 10 _ _ rfl rfl
          cases o0 with | int _ n0 _ _ =>
          cases o1 with | int _ n1 _ _ =>
          cases o2 with | int _ n2 _ _ =>
          cases o3 with | int _ n3 _ _ =>
          cases o4 with | int _ n4 _ _ =>
          cases o5 with | int _ n5 _ _ =>
          obtain ⟨bz, bn, bc, bt, rfl, b1, b2⟩ := ok_bytes o6
          cases o7 with | str s7 _ =>
          obtain ⟨nl, nt, rfl, b3⟩ := ok_names o8
          cases o9 with | int _ n9 _ _ =>
          cases o10 with | int _ n10 _ _ =>
          refine ⟨⟨n0, n1, n2, n3, n4, n5, bz, bn, bc, bt, s7.data.toList, 3, nl, nt, n9, n10⟩ :: l, ?_, by simp [k2], ?_⟩
          · rw [List.flatten_cons, k1, encs_cons]
            unfold actA Ac.ans
            dsimp only
            rw [bs_eta]
            rfl
          · intro x hx
            rcases List.mem_cons.1 hx with rfl | hx
            · exact ⟨fun _ => rfl, b3, b1, b2⟩
            · exact k3 x hx
    obtain ⟨l, k1, k2, k3⟩ := this rows hl hr
    exact ⟨l, .ro, by rw [k1, k2]; rfl, rfl, k3⟩
theorem hf_acts {l : List Ac} (h : ∀ x ∈ l, x.ok) : hfL (encs actA l) = true := by
  induction l with
  | nil => rfl
  | cons x r ih =>
    rw [encs_cons, hfL_append, ih (fun y hy => h y (List.mem_cons_of_mem _ hy)), Bool.and_true]
    have := ans_hf (h x (List.mem_cons_self ..))
    unfold actA
    simp [hfL, AV.hf, hfL_append, this]
theorem drop_ac (pre : List Ac) (x : Ac) (r : List Ac) : List.drop (pre.length * 11) (encs actA (pre ++ x :: r)) = actA x ++ encs actA r := by
  have := drop_pre (f := actA) pre (x :: r)
  rw [this]; rfl
theorem Sat.set {H : Heap} {a i : Nat} {o : AObj} {p : List UInt8} {m : Int} {s : St} (h : Sat H a p m s) (hi : i ≠ a) : Sat (H.set i o) a p m s := by
  obtain ⟨sz, tk, h1, h2, h3⟩ := h
  exact ⟨sz, tk, h1, h2, by rw [set_ne hi]; exact h3⟩
theorem Sat.lt {H : Heap} {a : Nat} {p : List UInt8} {m : Int} {s : St} (h : Sat H a p m s) : a < H.length := by
  obtain ⟨_, _, _, _, h⟩ := h
  exact (List.getElem?_eq_some_iff.1 h).1
theorem takeM_len (s : St) (x : Ac) : (takeM s x).told.length ≤ s.told.length + x.names.length := by
  unfold takeM
  split
  · omega
  split
  · dsimp only; omega
  · dsimp only; rw [List.length_append]; exact Nat.le_refl _
theorem streamPlays_pc {x0 x1 x2 : AV} (h0 : OkS .str x0) (h1 : OkS (.int .i64) x1) (h2 : OkS (.slice [.int .i64, .int .i64, .int .i64, .int .i64, .int .i64, .int .i64, .slice [.int .u8], .str, .slice [.int .u64, .str, .int .i64], .int .u64, .int .u64]) x2) : (cbL tab).pc 3 [x0, x1, x2] = some (.plain (.bool true)) := by
  cases h0 with
  | str s hs =>
  obtain ⟨p, rfl⟩ := bs_back s
  cases h1 with
  | int _ m hm1 hm2 =>
  obtain ⟨l, tk, rfl, htk, hok⟩ := ok_acts h2
  obtain ⟨u1, e1, f1⟩ := lend_sl 11 l.length (encs actA l) tk
  have hfa := hf_acts hok
  refine pc_wp (fi := c3) rfl ?_ (by simp [c3]) (by decide) ?_
  · simp only [pcOn, List.map_cons, List.map_nil, hfL, hf_lend_sl, hf_lend_int, hf_lend_bool, hf_lend_str, hfL_append, Bool.and_self, Bool.and_true, Bool.true_and, c3, hfa]
  unfold c3
  rw [List.map_cons, List.map_cons, List.map_cons, List.map_nil, e1, lend_str, lend_int]
  by_cases hp : 300 < p.length
  · have h' : (300 : Int) < (p.length : Nat) := by omega
    simp (disch := omega) only [wk, avalE, aactE, evPE, boundE, asNat, bv_seql cellsEq_ii, bv_sneqd cellsEq_ii, readC, allOne, fillL, resE, tupled, ↓reduceIte, Nat.reduceEqDiff, Int.reduceEq, Int.reduceLT, Int.reduceLE, Nat.reduceAdd, Nat.reduceMul, Nat.reduceLT, Nat.reduceLeDiff, reduceCtorEq, bs_size, h', works28_px, purify, unownT, lend, AV.hf]
  have hp1 : ¬ (300 : Int) < (p.length : Nat) := by omega
  by_cases hl1 : 40 < l.length
  · have h' : (40 : Int) < (l.length : Nat) := by omega
    simp (disch := omega) only [wk, avalE, aactE, evPE, boundE, asNat, bv_seql cellsEq_ii, bv_sneqd cellsEq_ii, readC, allOne, fillL, resE, tupled, ↓reduceIte, Nat.reduceEqDiff, Int.reduceEq, Int.reduceLT, Int.reduceLE, Nat.reduceAdd, Nat.reduceMul, Nat.reduceLT, Nat.reduceLeDiff, reduceCtorEq, bs_size, hp1, h', works28_px, purify, unownT, lend, AV.hf]
  have hl2 : ¬ (40 : Int) < (l.length : Nat) := by omega
  have rr := fun H => rright_px m H
  by_cases hm : 1 ≤ m ∧ m ≤ 64
  case neg =>
    have nn := fun H => new_no (p := p) (show m < 1 ∨ 64 < m by omega) H
    rw [decide_eq_false hm] at rr
    simp (disch := omega) only [wk, avalE, aactE, evPE, boundE, asNat, bv_seql cellsEq_ii, bv_sneqd cellsEq_ii, readC, allOne, fillL, resE, tupled, ↓reduceIte, Nat.reduceEqDiff, Int.reduceEq, Int.reduceLT, Int.reduceLE, Nat.reduceAdd, Nat.reduceMul, Nat.reduceLT, Nat.reduceLeDiff, reduceCtorEq, bs_size, hp1, hl2, nn, rr, num28_px, pnn, kemp, works28_px, in_none, runE_none ll_none, in_Call, runE_none ll_Call, in_ends, runE_none ll_ends, in_Take, runE_none ll_Take, in_Seek, runE_none ll_Seek, in_Told, runE_none ll_Told, in_Over, runE_none ll_Over, in_Copy, runE_none ll_Copy, in_New, runE_none ll_New, in_told, runE_none ll_told, in_same, runE_none ll_same, purify, unownT, lend, AV.hf]
  rw [decide_eq_true hm] at rr
  obtain ⟨H0, q1, q2, q3⟩ := new_ic (p := p) hm.1 hm.2 []
  simp only [List.length_nil] at q1 q2
  have hk := q2.lt
  have g0 : ∀ (L : List AObj), (H0 ++ L)[H0.length]? = L[0]? := fun L => by rw [List.getElem?_append_right (by omega)]; congr 1; omega
  have s0' : ∀ (L : List AObj) (o : AObj), (H0 ++ L).set H0.length o = H0 ++ L.set 0 o := fun L o => by rw [List.set_append_right _ _ (by omega)]; congr 2; omega
  obtain ⟨H1, c1, c2⟩ := same_ic (q2.still (Still.app H0 [.cells (stC p m ⟨[], false, 0, 0⟩ (.sl 0 0 [] .z))])) (sz := 0) (tk := .z) ⟨fun h => absurd rfl h, .inr ⟨.inl rfl, rfl⟩⟩ (by simp)
  have y1 := c2 H0.length _ (g0 _)
  have hs1 := (q2.still (Still.app H0 _)).still c2
  unfold stC at c1 y1
  simp only [List.length_nil, encs_nil] at c1
  simp (disch := omega) only [wk, avalE, aactE, evPE, boundE, asNat, bv_seql cellsEq_ii, bv_sneqd cellsEq_ii, readC, allOne, fillL, resE, tupled, ↓reduceIte, Nat.reduceEqDiff, Int.reduceEq, Int.reduceLT, Int.reduceLE, Nat.reduceAdd, Nat.reduceMul, Nat.reduceLT, Nat.reduceLeDiff, reduceCtorEq, bs_size, hp1, hl2, q1, rr, num28_px, g0, s0', c1, kemp, in_none, runE_none ll_none, in_Call, runE_none ll_Call, in_ends, runE_none ll_ends, in_Take, runE_none ll_Take, in_Seek, runE_none ll_Seek, in_Told, runE_none ll_Told, in_Over, runE_none ll_Over, in_Copy, runE_none ll_Copy, in_New, runE_none ll_New, in_told, runE_none ll_told, in_same, runE_none ll_same]
  have y2 : ∃ sz tk, OkT (St.told ⟨[], false, 0, 0⟩) sz tk ∧ H1[H0.length]? = some (.cells (stC p m ⟨[], false, 0, 0⟩ (.sl sz (St.told ⟨[], false, 0, 0⟩).length (encs nmA (St.told ⟨[], false, 0, 0⟩)) tk))) := ⟨0, .z, ⟨fun h => absurd rfl h, .inr ⟨.inl rfl, rfl⟩⟩, y1⟩
  generalize hkk : H0.length = k at *
  have hb0 : (0 : Nat) ≠ k := by omega
  refine loop_ind (fun (y : List Ac × List Ac × St × Nat) E df H => l = y.1 ++ y.2.1 ∧ Sat H y.2.2.2 p m y.2.2.1 ∧ y.2.2.2 ≠ k ∧ y.2.2.1.told.length ≤ 20 * y.1.length ∧ (∃ sz tk, OkT y.2.2.1.told sz tk ∧ H[k]? = some (.cells (stC p m y.2.2.1 (.sl sz y.2.2.1.told.length (encs nmA y.2.2.1.told) tk)))) ∧ E 2 = .sl 11 l.length (encs actA l) u1 ∧ E 7 = .ptr y.2.2.2 0 ∧ E 9 = .ptr k 0 ∧ E 10 = .int .i64 (y.1.length : Nat) ∧ df = [])
    (fun y => y.2.1.length) ([], l, ⟨[], false, 0, 0⟩, 0) (by decide) (.inl rfl) ⟨rfl, hs1, hb0, by simp, y2, rfl, rfl, rfl, rfl, rfl⟩ ?_
  clear q1 q2 q3 g0 s0' hkk c1 c2 y1 y2 hs1 H1 hk hb0
  intro ⟨pre, suf, s, b⟩ E df H ih hP
  obtain ⟨a1, hS, hbk, hln, ⟨sz, t, ht, z1⟩, E2, E7, E9, E10, hdf⟩ := hP
  dsimp only at a1 hS hbk hln ht z1 E7 E10
  subst hdf
  have la : l.length = pre.length + suf.length := by rw [a1, List.length_append]
  cases suf with
  | nil =>
    have n1 : ¬ (pre.length : Int) < (l.length : Int) := by simp at la; omega
    simp (disch := omega) only [wk, avalE, aactE, evPE, boundE, asNat, bv_seql cellsEq_ii, bv_sneqd cellsEq_ii, readC, allOne, fillL, resE, tupled, ↓reduceIte, Nat.reduceEqDiff, Int.reduceEq, Int.reduceLT, Int.reduceLE, Nat.reduceAdd, Nat.reduceMul, Nat.reduceLT, Nat.reduceLeDiff, reduceCtorEq, E2, E7, E9, E10, n1, works28_px, in_none, runE_none ll_none, in_Call, runE_none ll_Call, in_ends, runE_none ll_ends, in_Take, runE_none ll_Take, in_Seek, runE_none ll_Seek, in_Told, runE_none ll_Told, in_Over, runE_none ll_Over, in_Copy, runE_none ll_Copy, in_New, runE_none ll_New, in_told, runE_none ll_told, in_same, runE_none ll_same, purify, unownT, lend, AV.hf]
  | cons x r =>
    simp only [List.length_cons] at la
    have n1 : (pre.length : Int) < (l.length : Int) := by omega
    have hx := hok x (by rw [a1]; simp)
    have d1 : List.drop (pre.length * 11) (encs actA l) = .int .i64 x.what :: .int .i64 x.errno :: .int .i64 x.inode :: .int .i64 x.kind :: .int .i64 x.links :: .int .i64 x.size :: .sl x.bsz x.bn x.bcs x.btk :: .str (bs x.text) :: .sl x.nsz x.names.length (encs nmA x.names) x.ntk :: .int .u64 x.akey :: .int .u64 x.key :: encs actA r := by
      rw [a1]; exact drop_ac pre x r
    have g0 : ∀ (L : List AObj), (H ++ L)[H.length]? = L[0]? := fun L => by rw [List.getElem?_append_right (by omega)]; congr 1; omega
    have s0 : ∀ (L : List AObj) (o : AObj), (H ++ L).set H.length o = H ++ L.set 0 o := fun L o => by rw [List.set_append_right _ _ (by omega)]; congr 2; omega
    by_cases h20 : 20 < x.names.length
    · have h' : (20 : Int) < (x.names.length : Nat) := by omega
      simp (disch := omega) only [wk, avalE, aactE, evPE, boundE, asNat, bv_seql cellsEq_ii, bv_sneqd cellsEq_ii, readC, allOne, fillL, resE, tupled, ↓reduceIte, Nat.reduceEqDiff, Int.reduceEq, Int.reduceLT, Int.reduceLE, Nat.reduceAdd, Nat.reduceMul, Nat.reduceLT, Nat.reduceLeDiff, reduceCtorEq, E2, E7, E9, E10, n1, d1, g0, s0, h', kemp, works28_px, in_none, runE_none ll_none, in_Call, runE_none ll_Call, in_ends, runE_none ll_ends, in_Take, runE_none ll_Take, in_Seek, runE_none ll_Seek, in_Told, runE_none ll_Told, in_Over, runE_none ll_Over, in_Copy, runE_none ll_Copy, in_New, runE_none ll_New, in_told, runE_none ll_told, in_same, runE_none ll_same, purify, unownT, lend, AV.hf]
    have h20' : ¬ (20 : Int) < (x.names.length : Nat) := by omega
    have alen : l = (pre ++ [x]) ++ r := by simp [a1]
    have hkl := (List.getElem?_eq_some_iff.1 z1).1
    have hb := hS.lt
    have g1 : ∀ (c : AObj) (L : List AObj), (H ++ c :: L)[H.length + 1]? = L[0]? := fun c L => by rw [List.getElem?_append_right (by omega), show H.length + 1 - H.length = 1 by omega]; rfl
    have s1 : ∀ (c : AObj) (L : List AObj) (o : AObj), (H ++ c :: L).set (H.length + 1) o = H ++ c :: L.set 0 o := fun c L o => by rw [List.set_append_right _ _ (by omega), show H.length + 1 - H.length = 1 by omega]; rfl
    have kL : ∀ L : List AObj, (H ++ L)[k]? = _ := fun L => (List.getElem?_append_left hkl).trans z1
    have kS : ∀ (L : List AObj) (o : AObj), ((H ++ L).set k o)[k]? = some o := fun L o => set_eq (kL L)
    have kx : ∀ (L : List AObj) (o : AObj), ((H ++ L).set k o)[H.length]? = L[0]? := fun L o => by rw [set_ne (by omega)]; exact g0 L
    have hx2 : (pre ++ [x]).length = pre.length + 1 := by simp
    by_cases w0 : x.what = 0
    · obtain ⟨r1, j1, sz2, t2, ht2, rfl⟩ := rtake_pc (p := p) (m := m) ht x hx (by omega)
      have j2 := fun H => pcx_N (H := H) (cb := cbL tab) (f := 15) rfl j1
      have sx := fun L o => (hS.still (Still.app H L)).set (i := k) (o := o) (fun e => hbk e.symm)
      obtain ⟨H2, q1, q2, q3⟩ := take_ic (sx [.cells (actA x), .cells (stC p m (takeM s x) (.sl sz2 (takeM s x).told.length (encs nmA (takeM s x).told) t2))] (.cells (stC p m (takeM s x) (.sl sz2 (takeM s x).told.length (encs nmA (takeM s x).told) t2)))) x hx (by omega)
      have tl := takeM_len s x
      obtain ⟨H3, c1, c2⟩ := same_ic q2 ht2 (by omega)
      have z2 := q3.2 k _ (fun e => hbk e.symm) (kS _ _)
      have z3 := c2 _ _ z2
      have q4 := q2.still c2
      have z3' := z3
      generalize takeM s x = sn at *
      clear j1
      unfold stC at j2 q1 z2 c1 kL
      unfold actA Ac.ans at q1
      unfold Ac.ans at j2
      simp only [List.cons_append, List.nil_append] at q1
      rw [w0] at q1
      simp (disch := omega) only [wk, avalE, aactE, evPE, boundE, asNat, bv_seql cellsEq_ii, bv_sneqd cellsEq_ii, readC, allOne, fillL, resE, tupled, ↓reduceIte, Nat.reduceEqDiff, Int.reduceEq, Int.reduceLT, Int.reduceLE, Nat.reduceAdd, Nat.reduceMul, Nat.reduceLT, Nat.reduceLeDiff, reduceCtorEq, E2, E7, E9, E10, n1, d1, g0, s0, g1, s1, kL, kS, kx, h20', w0, j2, q1, z2, c1, num28_px, kemp, List.append_assoc, in_none, runE_none ll_none, in_Call, runE_none ll_Call, in_ends, runE_none ll_ends, in_Take, runE_none ll_Take, in_Seek, runE_none ll_Seek, in_Told, runE_none ll_Told, in_Over, runE_none ll_Over, in_Copy, runE_none ll_Copy, in_New, runE_none ll_New, in_told, runE_none ll_told, in_same, runE_none ll_same]
      exact ih (pre ++ [x], r, sn, b) _ _ _ (by simp) ⟨alen, q4, hbk, by dsimp only; rw [hx2]; omega, ⟨sz2, t2, ht2, z3'⟩, by simp only [en, ↓reduceIte, Nat.reduceEqDiff, E2], by simp only [en, ↓reduceIte, Nat.reduceEqDiff, E7], by simp only [en, ↓reduceIte, Nat.reduceEqDiff, E9], by simp only [en, ↓reduceIte, Nat.reduceEqDiff], rfl⟩
    by_cases w1 : x.what = 1
    · have j2 := fun H => rseek_px (p := p) (m := m) ht x.key H
      have sx := fun L o => (hS.still (Still.app H L)).set (i := k) (o := o) (fun e => hbk e.symm)
      obtain ⟨H2, q1, q2, q3⟩ := seek_ic (sx [.cells (actA x)] (.cells (stC p m (seekM s x.key) (.sl sz (seekM s x.key).told.length (encs nmA (seekM s x.key).told) t)))) x.key
      have ht2 : OkT (seekM s x.key).told sz t := ht
      have tl : (seekM s x.key).told.length = s.told.length := rfl
      obtain ⟨H3, c1, c2⟩ := same_ic q2 ht2 (by omega)
      have z2 := q3.2 k _ (fun e => hbk e.symm) (kS _ _)
      have z3 := c2 _ _ z2
      have q4 := q2.still c2
      have z3' := z3
      have j3 : ∀ H, pcx (cbL tab) 17 [.agg (stC p m s (.sl sz s.told.length (encs nmA s.told) t)), .int .u64 x.key] H = some (.plain (.agg (stC p m (seekM s x.key) (.sl sz (seekM s x.key).told.length (encs nmA (seekM s x.key).told) t)))) := j2
      clear j2
      generalize seekM s x.key = sn at *
      unfold stC at j3 q1 z2 c1 kL
      unfold actA Ac.ans at q1
      simp only [List.cons_append, List.nil_append] at q1
      rw [w1] at q1
      simp (disch := omega) only [wk, avalE, aactE, evPE, boundE, asNat, bv_seql cellsEq_ii, bv_sneqd cellsEq_ii, readC, allOne, fillL, resE, tupled, ↓reduceIte, Nat.reduceEqDiff, Int.reduceEq, Int.reduceLT, Int.reduceLE, Nat.reduceAdd, Nat.reduceMul, Nat.reduceLT, Nat.reduceLeDiff, reduceCtorEq, E2, E7, E9, E10, n1, d1, g0, s0, g1, s1, kL, kS, kx, h20', w1, j3, q1, z2, c1, num28_px, kemp, List.append_assoc, in_none, runE_none ll_none, in_Call, runE_none ll_Call, in_ends, runE_none ll_ends, in_Take, runE_none ll_Take, in_Seek, runE_none ll_Seek, in_Told, runE_none ll_Told, in_Over, runE_none ll_Over, in_Copy, runE_none ll_Copy, in_New, runE_none ll_New, in_told, runE_none ll_told, in_same, runE_none ll_same]
      exact ih (pre ++ [x], r, sn, b) _ _ _ (by simp) ⟨alen, q4, hbk, by dsimp only; rw [hx2]; omega, ⟨sz, t, ht2, z3'⟩, by simp only [en, ↓reduceIte, Nat.reduceEqDiff, E2], by simp only [en, ↓reduceIte, Nat.reduceEqDiff, E7], by simp only [en, ↓reduceIte, Nat.reduceEqDiff, E9], by simp only [en, ↓reduceIte, Nat.reduceEqDiff], rfl⟩
    by_cases w2 : x.what = 2
    · have lenA : (H ++ [AObj.cells (actA x)]).length = H.length + 1 := by simp
      obtain ⟨H2, p1, p2, p3⟩ := copy_ic (hS.still (Still.app H [.cells (actA x)]))
      rw [lenA] at p1 p2
      obtain ⟨H3, q1, q2, q3⟩ := seek_ic ((hS.still (Still.app H [.cells (actA x)])).still p3) 77
      obtain ⟨H4, v1, v2, v3⟩ := take_ic q2 ⟨0, 0, 0, 0, 0, 0, 0, 0, [], .z, [], 3, [⟨0, [120], 0⟩], .ro, 0, 0⟩ ⟨fun _ => rfl, rfl, rfl, rfl⟩ (by
        have e1 : (seekM s 77).told.length = s.told.length := rfl
        rw [e1]
        simp only [List.length_cons, List.length_nil]
        omega)
      have sc := (p2.keep q3 (by omega)).keep v3 (by omega)
      have zz := v3.2 k _ (fun e => hbk e.symm) (q3.2 k _ (fun e => hbk e.symm) (p3 _ _ (kL _)))
      obtain ⟨H5, c1, c2⟩ := same_ic sc ht (by omega)
      have z5 := c2 _ _ zz
      have sc2 := sc.still c2
      have k120 : ByteArray.mk (Array.mk [UInt8.ofNat 120]) = bs [120] := rfl
      have v4 : (cbL tab).ic 16 [.ptr b 0, .agg [.int .i64 0, .int .i64 0, .int .i64 0, .int .i64 0, .int .i64 0, .sl 0 0 [] .z, .str (bs []), .sl 3 1 [.int .u64 0, .str (bs [120]), .int .i64 0] .ro, .int .u64 0]] H3 = some (.ret (.int .i64 (if (seekM s 77).over then 5 else 0)), H4) := v1
      clear v1
      unfold actA Ac.ans at p1
      simp only [List.cons_append, List.nil_append] at p1
      rw [w2] at p1
      unfold stC at zz c1
      simp (disch := omega) only [wk, avalE, aactE, evPE, boundE, asNat, bv_seql cellsEq_ii, bv_sneqd cellsEq_ii, readC, allOne, fillL, resE, tupled, ↓reduceIte, Nat.reduceEqDiff, Int.reduceEq, Int.reduceLT, Int.reduceLE, Nat.reduceAdd, Nat.reduceMul, Nat.reduceLT, Nat.reduceLeDiff, reduceCtorEq, E2, E7, E9, E10, n1, d1, g0, s0, g1, s1, h20', w2, p1, q1, v4, zz, c1, num28_px, k120, kemp, List.append_assoc, in_none, runE_none ll_none, in_Call, runE_none ll_Call, in_ends, runE_none ll_ends, in_Take, runE_none ll_Take, in_Seek, runE_none ll_Seek, in_Told, runE_none ll_Told, in_Over, runE_none ll_Over, in_Copy, runE_none ll_Copy, in_New, runE_none ll_New, in_told, runE_none ll_told, in_same, runE_none ll_same]
      exact ih (pre ++ [x], r, s, H.length + 1) _ _ _ (by simp) ⟨alen, sc2, by dsimp only; omega, by dsimp only; rw [hx2]; omega, ⟨sz, t, ht, z5⟩, by simp only [en, ↓reduceIte, Nat.reduceEqDiff, E2], by simp only [en, ↓reduceIte, Nat.reduceEqDiff], by simp only [en, ↓reduceIte, Nat.reduceEqDiff, E9], by simp only [en, ↓reduceIte, Nat.reduceEqDiff], rfl⟩
    have sA := hS.still (Still.app H [.cells (actA x)])
    obtain ⟨H2, c1, c2⟩ := same_ic sA ht (by omega)
    have z2 := c2 _ _ (kL _)
    have sB := sA.still c2
    unfold stC at kL c1
    unfold actA Ac.ans at c1
    simp only [List.cons_append, List.nil_append] at c1
    simp (disch := omega) only [wk, avalE, aactE, evPE, boundE, asNat, bv_seql cellsEq_ii, bv_sneqd cellsEq_ii, readC, allOne, fillL, resE, tupled, ↓reduceIte, Nat.reduceEqDiff, Int.reduceEq, Int.reduceLT, Int.reduceLE, Nat.reduceAdd, Nat.reduceMul, Nat.reduceLT, Nat.reduceLeDiff, reduceCtorEq, E2, E7, E9, E10, n1, d1, g0, s0, kL, h20', w0, w1, w2, c1, num28_px, kemp, List.append_assoc, in_none, runE_none ll_none, in_Call, runE_none ll_Call, in_ends, runE_none ll_ends, in_Take, runE_none ll_Take, in_Seek, runE_none ll_Seek, in_Told, runE_none ll_Told, in_Over, runE_none ll_Over, in_Copy, runE_none ll_Copy, in_New, runE_none ll_New, in_told, runE_none ll_told, in_same, runE_none ll_same]
    exact ih (pre ++ [x], r, s, b) _ _ _ (by simp) ⟨alen, sB, hbk, by dsimp only; rw [hx2]; omega, ⟨sz, t, ht, z2⟩, by simp only [en, ↓reduceIte, Nat.reduceEqDiff, E2], by simp only [en, ↓reduceIte, Nat.reduceEqDiff, E7], by simp only [en, ↓reduceIte, Nat.reduceEqDiff, E9], by simp only [en, ↓reduceIte, Nat.reduceEqDiff], rfl⟩
end Go.Proofs.Ytailfegmnkldoaa
