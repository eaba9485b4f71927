/- slices.Insert WITH ELEMENTS OF 2 CELLS, in the model itself: where there is room, where there is none. No condition but those stated. -/
import Derived.Shelf.Spec.SlicesInsertGrow
import Derived.Test.YtailfegmnkldoaaProg
set_option linter.unusedSimpArgs false
set_option linter.unusedVariables false
set_option linter.unusedSectionVars false
namespace Go.Proofs.Ytailfegmnkldoaa
open Go Go.Proofs Go.Shelf Go.RowKit Go.Lib
set_option maxRecDepth 100000
set_option linter.unusedSimpArgs false
theorem insInfo : ∃ i, Try.prog.info? 126 = some i ∧ i.zero = some (.agg #[.int .i64 0, .int .u64 0]) ∧ i.size = 2 ∧ i.bytes = 16 := by
  have h : (Try.prog.info? 126).map (fun i => (i.zero, i.size, i.bytes)) = some (some (.agg #[.int .i64 0, .int .u64 0]), 2, 16) := by kernel_rfl
  obtain ⟨i, hi, h2⟩ := Option.map_eq_some_iff.1 h
  simp only [Prod.mk.injEq] at h2
  exact ⟨i, hi, h2.1, h2.2.1, h2.2.2⟩
theorem run_copyK {P : Program} (w : World) (dT sT ty elem : TypeId) (k b o dLen dCap : Nat) (a : Addr) (sLen sCap : Nat) (cs : List Value)
    (hu : P.underlying dT = some (.slice elem)) (hs : (P.info? elem).map (·.size) = some k) (hn : cs.length = Nat.min sLen dLen * k)
    (hsrc : ∀ j v, cs[j]? = some v → w.cell? (a.add j) = some v) (hc : ∀ j, j < cs.length → (w.cell? ⟨b, o + j, none⟩).isSome = true) (hf : ∀ j, j < cs.length → w.frozen? ⟨b, o + j, none⟩ = false) (h1 : ∀ v ∈ cs, v.oneCell' = true) :
    (Builtin.copy_ #[dT, sT] ty #[.slice (some ⟨b, o, none⟩) dLen dCap, .slice (some a) sLen sCap]).run P w = .ok (goInt (Nat.min sLen dLen)) (w.setCells b o cs) := by
  have hl := run_loadCells_list (P := P) w a cs hsrc
  have hst := run_storeCells_cells (P := P) b o cs 0 w (by simpa using hc) (by simpa using hf) h1
  cases hq : P.info? elem with
  | none => simp [hq] at hs
  | some i =>
    have hi : i.size = k := by simpa [hq] using hs
    simp [Builtin.copy_, run_underlying hu, Builtin.lenOf, Builtin.firstCells, sizeOf, typeInfo, hq, hi, ← hn, hl, hst]
theorem overlaps_apart {P : Program} (w : World) (tS tR e : TypeId) (ht : P.underlying tS = some (.slice e)) (size : Nat) (hz : ∀ w, (Go.sizeOf e).run P w = .ok size w)
    (a b : Addr) (la ca lb cb : Nat) (hne : a.block ≠ b.block) (ca' cb' : Array Value) (tA tB : TypeId) (fr : Nat × Nat)
    (hsa : w.heap[a.block]? = some (.cells ca' tA fr)) (h0 : ca'.size ≠ 0) (hsb : w.heap[b.block]? = some (.cells cb' tB (0, 0))) :
    (Extern.SlicesOverlaps.overlaps #[tS, tS] #[tR] #[.slice (some a) la ca, .slice (some b) lb cb]).run P w = .ok (.bool false) w := by
  have hnb : (a.block != b.block) = true := by simpa using hne
  have hnb' : (a.block == b.block) = false := by simpa using hne
  have s1 : w.shape? a.block = some (tA, ca'.size) := by simp [World.shape?, hsa]
  have s2 : w.shape? b.block = some (tB, cb'.size) := by simp [World.shape?, hsb]
  have f1 : w.frozen? b = false := by simp [World.frozen?, hsb]
  have f2 : w.frozen? { block := b.block, off := cb'.size } = false := by simp [World.frozen?, hsb]
  generalize hq : ca'.size = q at h0 s1
  cases q with
  | zero => exact absurd rfl h0
  | succ q =>
  delta Extern.SlicesOverlaps.overlaps
  conv => lhs; arg 2; whnf
  rw [Sem.run]
  have g : (#[tS, tS] : Array TypeId)[0] = tS := rfl
  have hb : ∀ {α β : Type} (m : Sem α) (f : α → Sem β), m.bind f = (m >>= f) := fun _ _ => rfl
  have hp : ∀ {α : Type} (x : α), Sem.pure x = (pure x : Sem α) := fun _ => rfl
  simp only [g, hb, hp, pure_bind, ht]
  by_cases h0 : la = 0 ∨ lb = 0 ∨ size = 0
  · simp [ht, hz, h0, Sem.run]
  · cases hfa : w.frozen? a <;> cases hfe : w.frozen? { block := a.block, off := q + 1 } <;>
      simp [ht, hz, h0, hnb, hnb', frozen, noView, viewAt, mayBeOne, stringish, shape, Sem.run, s1, s2, f1, f2, hfa, hfe]
set_option maxHeartbeats 4000000 in
set_option maxRecDepth 100000 in
theorem insert_room (b n c vb voff m vc : Nat) (cs vs : List Value) (w : World) (hi : 0 < n) (hm : 0 < m) (hroom : n + m ≤ c) (hc63 : c ≤ 9223372036854775807) (hvb : vb ≠ b)
    (hcl : cs.length = n * 2) (hvl : vs.length = m * 2)
    (hcs : ∀ j v, cs[j]? = some v → w.cell? ⟨b, j, none⟩ = some v) (hsp : ∀ j, j < (n + m) * 2 → (w.cell? ⟨b, j, none⟩).isSome = true)
    (hvs : ∀ j v, vs[j]? = some v → w.cell? ⟨vb, voff + j, none⟩ = some v) (h1c : ∀ v ∈ cs, v.oneCell' = true) (h1v : ∀ v ∈ vs, v.oneCell' = true)
    (ca' cb' : Array Value) (tA tB : TypeId) (fr : Nat × Nat) (hsa : w.heap[vb]? = some (.cells ca' tA fr)) (h0 : ca'.size ≠ 0) (hsb : w.heap[b]? = some (.cells cb' tB (0, 0))) :
    Calls Try.prog 141 #[.slice (some ⟨b, 0, none⟩) n c, .int .i64 0, .slice (some ⟨vb, voff, none⟩) m vc] w fun e w' =>
      e = .returned (.slice (some ⟨b, 0, none⟩) (n + m) c) ∧ w' = (w.drew.setCells b (m * 2) cs).setCells b 0 vs := by
  obtain ⟨i0, hi0, hz0, hzs, hzb⟩ := insInfo
  have hsz : (Try.prog.info? 126).map (·.size) = some 2 := by rw [hi0]; simp [hzs]
  have hz1 : ¬ ((m : Int) = 0) := by omega
  have hz2 : ¬ ((n : Int) = 0) := by omega
  have hz3 : ¬ ((0 : Int) = (n : Int)) := by omega
  have hfz : ∀ j, w.frozen? ⟨b, j, none⟩ = false := fun j => by simp [World.frozen?, hsb]
  have hov : ∀ lb cb, (callFunc 173 #[.slice (some ⟨vb, voff, none⟩) m vc, .slice (some ⟨b, m * 2, none⟩) lb cb]).run Try.prog w = .ok (.value (.bool false)) w := fun lb cb => by
    rw [run_callFunc_extern Try.func173 (by kernel_rfl) (by kernel_rfl) (by kernel_rfl) (e := Extern.SlicesOverlaps.overlaps #[51, 51] #[4]) (by kernel_rfl),
      overlaps_apart w 51 4 126 Try.underlying51 2 Try.sizeOf126 ⟨vb, voff, none⟩ ⟨b, m * 2, none⟩ m vc lb cb hvb ca' cb' tA tB fr hsa h0 hsb]
    rfl
  have hb1 : (0 : Int) ≤ (m : Int) := by omega
  have hb2 : ¬ (c = m) := by omega
  have hb4 : ¬ (c = 0) := by omega
  have hcp1 : ∀ ty dc sc, (Builtin.copy_ #[51, 51] ty #[.slice (some ⟨b, m * 2, none⟩) n dc, .slice (some ⟨b, 0, none⟩) (n + m) sc]).run Try.prog w.drew = .ok (goInt (n : Nat)) (w.drew.setCells b (m * 2) cs) := fun ty dc sc => by
    have := run_copyK (P := Try.prog) w.drew 51 51 ty 126 2 b (m * 2) n dc ⟨b, 0, none⟩ (n + m) sc cs Try.underlying51 hsz (by rw [hcl]; congr 1; simp only [Nat.min_def]; split <;> omega)
      (fun j v hj => by rw [Addr.add_lit, Nat.zero_add]; exact hcs j v hj)
      (fun j hj => hsp (m * 2 + j) (by rw [hcl] at hj; rw [Nat.add_mul]; omega)) (fun j hj => hfz _) h1c
    rwa [show Nat.min (n + m) n = n by simp only [Nat.min_def]; split <;> omega] at this
  obtain ⟨W1, hW1⟩ : ∃ W1, W1 = w.drew.setCells b (m * 2) cs := ⟨_, rfl⟩
  have hsp1 : ∀ k, k < (n + m) * 2 → (W1.cell? ⟨b, k, none⟩).isSome = true := fun k hk => by
    rw [hW1]
    exact isSome_setCells b cs (m * 2) w.drew (fun j hj => hsp (m * 2 + j) (by rw [hcl] at hj; rw [Nat.add_mul]; omega)) k (hsp k hk)
  have hcp2 : ∀ (W : World), (∀ x, W.cell? x = W1.cell? x) → (∀ x, W.frozen? x = W1.frozen? x) → ∀ ty dc, (Builtin.copy_ #[51, 51] ty #[.slice (some ⟨b, 0, none⟩) (n + m) dc, .slice (some ⟨vb, voff, none⟩) m vc]).run Try.prog W = .ok (goInt (m : Nat)) (W.setCells b 0 vs) := fun W hWc hWf ty dc => by
    have := run_copyK (P := Try.prog) W 51 51 ty 126 2 b 0 (n + m) dc ⟨vb, voff, none⟩ m vc vs Try.underlying51 hsz (by rw [hvl]; congr 1; simp only [Nat.min_def]; split <;> omega)
      (fun j v hj => by
        rw [Addr.add_lit, hWc, hW1, World.cell?_setCells_out b _ _ _ _ (fun h _ => absurd h hvb)]
        exact hvs j v hj)
      (fun j hj => by rw [hWc]; exact hsp1 (0 + j) (by rw [hvl] at hj; rw [Nat.add_mul]; omega)) (fun j hj => by rw [hWf, hW1, World.frozen?_setCells]; exact hfz _) h1v
    rwa [show Nat.min m (n + m) = m by simp only [Nat.min_def]; split <;> omega] at this
  rw [← hW1] at hcp1
  have hw0 : IntKind.i64.wrap ((0 : Int) + (m : Int)) = (m : Int) := by rw [IntKind.wrap_i64]; omega
  have hw1 : IntKind.i64.wrap (m : Int) = (m : Int) := by rw [IntKind.wrap_i64]; omega
  have hb3 : (0 : Int) ≤ (n : Int) + (m : Int) := by omega
  have hb5 : (m : Int) ≤ (n : Int) + (m : Int) := by omega
  have mixed : Try.prog.follows .mixedOrders = true := by kernel_rfl
  go_enter Try.func141, Try.ntmps141
  go_wp2_with (simp only [hov])
  go_region_law_o (refine step_copy_runI rfl _ _ 51 51 rfl _ _ (by simp [Act.eval, Act.put]) (by simp [Act.eval, Act.put]) (hcp1 _ _ _) ?_)
  go_wp2_with (at_builtin; refine wpList_copy_runI _ rfl _ _ 51 51 rfl _ _ rfl rfl (hcp2 _ (fun _ => rfl) (fun _ => rfl) _ _) ?_)
  go_ret
  first | exact ⟨rfl, rfl⟩ | exact ⟨rfl, by rw [hW1]⟩
set_option maxHeartbeats 4000000 in
set_option maxRecDepth 100000 in
theorem insert_grow (b n c vb voff m vc : Nat) (cs vs : List Value) (w : World) (hi : 0 < n) (hm : 0 < m) (hnc : n ≤ c) (hroom : c < n + m) (hbig : (n + m) * 16 ≤ 140737488355328)
    (hcl : cs.length = n * 2) (hvl : vs.length = m * 2)
    (hcs : ∀ j v, cs[j]? = some v → w.cell? ⟨b, j, none⟩ = some v)
    (hvs : ∀ j v, vs[j]? = some v → w.cell? ⟨vb, voff + j, none⟩ = some v) (h1c : ∀ v ∈ cs, v.oneCell' = true) (h1v : ∀ v ∈ vs, v.oneCell' = true) :
    Calls Try.prog 141 #[.slice (some ⟨b, 0, none⟩) n c, .int .i64 0, .slice (some ⟨vb, voff, none⟩) m vc] w fun e w' =>
      e = .returned (.slice (some ⟨w.heap.size, 0, none⟩) (n + m) (grownCap w (n + m) c 126)) ∧
      w' = (((w.alloc (.cells (Builtin.zeroCells (Value.agg #[.int .i64 0, .int .u64 0]).cells (n + m) ++ Builtin.zeroCells (Value.agg #[.int .i64 0, .int .u64 0]).cells (grownCap w (n + m) c 126 - (n + m))) 126)).drew.setCells w.heap.size 0 vs).drew).setCells w.heap.size (m * 2) cs := by
  obtain ⟨i0, hi0, hz0, hzs, hzb⟩ := insInfo
  have mixed : Try.prog.follows .mixedOrders = true := by kernel_rfl
  have hz1 : ¬ ((m : Int) = 0) := by omega
  have hz2 : ¬ ((n : Int) = 0) := by omega
  have hz4 : ¬ ((0 : Int) = (n : Int)) := by omega
  have hz3 : (c : Int) < (n : Int) + (m : Int) := by omega
  have hsz : (Try.prog.info? 126).map (·.size) = some 2 := by rw [hi0]; simp [hzs]
  have hbw : b < w.heap.size := block_lt_of_cell (hcs 0 _ (List.getElem?_eq_getElem (by omega)))
  have hvw : vb < w.heap.size := block_lt_of_cell (hvs 0 _ (List.getElem?_eq_getElem (by omega)))
  have hkk : (n : Int) + (m : Int) = ((n + m : Nat) : Int) := by omega
  have hold : (Builtin.firstCells i0.size 0 (.slice (some ⟨b, 0, none⟩) 0 c)).run Try.prog w.drew = .ok ([] : List Value).toArray w.drew :=
    run_firstCells_some w.drew i0.size 0 ⟨b, 0, none⟩ 0 c [] (by simp) (fun j v hj => by simp at hj)
  have hrz : ∀ ty, (Builtin.append_ #[51, 3] ty #[.slice (some ⟨b, 0, none⟩) 0 c, .int .i64 ((n : Int) + (m : Int))]).run Try.prog w =
      .ok (.slice (some ⟨w.heap.size, 0, none⟩) (n + m) (grownCap w (n + m) c 126)) (w.drew.alloc (.cells (Builtin.zeroCells (Value.agg #[.int .i64 0, .int .u64 0]).cells (n + m) ++ Builtin.zeroCells (Value.agg #[.int .i64 0, .int .u64 0]).cells (grownCap w (n + m) c 126 - (n + m))) 126)) := fun ty => by
    have h := Lib.run_append_grow_zeros w 51 3 ty 126 i0 _ .i64 .i64 Try.underlying51 Try.underlying3 hi0 hz0 (some ⟨b, 0, none⟩) 0 c [] hold (n + m) (by omega) (by omega) (by omega) (by omega) (by rw [hzb]; omega) (by rw [hzb, Nat.zero_add]; exact growslice_fits hroom hbig)
    rw [Nat.zero_add] at h
    rw [hkk]
    simpa using h
  obtain ⟨G, hG⟩ : ∃ G, G = grownCap w (n + m) c 126 := ⟨_, rfl⟩
  obtain ⟨ROW, hROW⟩ : ∃ ROW : Array Value, ROW = Builtin.zeroCells (Value.agg #[.int .i64 0, .int .u64 0]).cells (n + m) ++ Builtin.zeroCells (Value.agg #[.int .i64 0, .int .u64 0]).cells (G - (n + m)) := ⟨_, rfl⟩
  rw [← hG] at hrz ⊢
  rw [← hROW] at hrz ⊢
  have hRl : (n + m) * 2 ≤ ROW.size := by
    rw [hROW]
    simp only [Array.size_append, size_zeroCells]
    show (n + m) * 2 ≤ (n + m) * 2 + _
    omega
  obtain ⟨W1, hW1⟩ : ∃ W1, W1 = w.drew.alloc (.cells ROW 126) := ⟨_, rfl⟩
  rw [← hW1] at hrz
  have hN : ∀ j, j < (n + m) * 2 → (W1.cell? ⟨w.heap.size, j, none⟩).isSome = true := fun j hj => by
    rw [hW1, World.cell?_alloc_at (w := w.drew) ROW _ w.heap.size j rfl, Array.getElem?_eq_getElem (by omega)]; rfl
  have hNf : ∀ j, W1.frozen? ⟨w.heap.size, j, none⟩ = false := fun j => by rw [hW1]; exact World.frozen?_alloc_at (w := w.drew) ROW _ w.heap.size j rfl
  have hOb : ∀ j v, w.cell? ⟨b, j, none⟩ = some v → W1.cell? ⟨b, j, none⟩ = some v := fun j v h => by rw [hW1, World.cell?_alloc_past (w := w.drew) _ b j hbw]; exact h
  have hOv : ∀ j v, w.cell? ⟨vb, j, none⟩ = some v → W1.cell? ⟨vb, j, none⟩ = some v := fun j v h => by rw [hW1, World.cell?_alloc_past (w := w.drew) _ vb j hvw]; exact h
  have hcpA : ∀ (W : World), (∀ x, W.cell? x = W1.cell? x) → (∀ x, W.frozen? x = W1.frozen? x) → ∀ ty dc, (Builtin.copy_ #[51, 51] ty #[.slice (some ⟨w.heap.size, 0, none⟩) (n + m) dc, .slice (some ⟨vb, voff, none⟩) m vc]).run Try.prog W = .ok (goInt (m : Nat)) (W.setCells w.heap.size 0 vs) := fun W hWc hWf ty dc => by
    have := run_copyK (P := Try.prog) W 51 51 ty 126 2 w.heap.size 0 (n + m) dc ⟨vb, voff, none⟩ m vc vs Try.underlying51 hsz (by rw [hvl]; congr 1; simp only [Nat.min_def]; split <;> omega)
      (fun j v hj => by rw [Addr.add_lit, hWc]; exact hOv _ v (hvs j v hj))
      (fun j hj => by rw [hWc]; exact hN (0 + j) (by rw [hvl] at hj; rw [Nat.add_mul]; omega)) (fun j hj => by rw [hWf]; exact hNf _) h1v
    rwa [show Nat.min m (n + m) = m by simp only [Nat.min_def]; split <;> omega] at this
  have hGn : n + m ≤ G := by rw [hG]; exact grownCap_ge w _ _ _
  have hG63 : G ≤ 9223372036854775807 := by
    have := grownCap_le_maxLen w (n + m) c 126 (by unfold maxLen; omega)
    rw [← hG] at this
    unfold maxLen at this
    omega
  have hG0 : ¬ (G = 0) := by omega
  have hGm : ¬ (G = m) := by omega
  have hc0 : ¬ (c = 0) := by omega
  have hbN : b ≠ w.heap.size := by omega
  have hcpB : ∀ (W : World), (∀ x, W.cell? x = (W1.setCells w.heap.size 0 vs).cell? x) → (∀ x, W.frozen? x = (W1.setCells w.heap.size 0 vs).frozen? x) → ∀ ty dc sc, (Builtin.copy_ #[51, 51] ty #[.slice (some ⟨w.heap.size, m * 2, none⟩) n dc, .slice (some ⟨b, 0, none⟩) n sc]).run Try.prog W = .ok (goInt (n : Nat)) (W.setCells w.heap.size (m * 2) cs) := fun W hWc hWf ty dc sc => by
    have := run_copyK (P := Try.prog) W 51 51 ty 126 2 w.heap.size (m * 2) n dc ⟨b, 0, none⟩ n sc cs Try.underlying51 hsz (by rw [hcl]; congr 1; simp only [Nat.min_def]; split <;> omega)
      (fun j v hj => by
        rw [Addr.add_lit, hWc, World.cell?_setCells_out _ _ _ _ _ (fun h _ => absurd h hbN), Nat.zero_add]
        exact hOb _ v (hcs j v hj))
      (fun j hj => by rw [hWc]; exact isSome_setCells w.heap.size vs 0 W1 (fun t ht => hN (0 + t) (by rw [hvl] at ht; rw [Nat.add_mul]; omega)) (m * 2 + j) (hN (m * 2 + j) (by rw [hcl] at hj; rw [Nat.add_mul]; omega)))
      (fun j hj => by rw [hWf, World.frozen?_setCells]; exact hNf _) h1c
    rwa [show Nat.min n n = n by simp only [Nat.min_def]; split <;> omega] at this
  subst hW1
  have hE1 : ∀ x, ((w.alloc (.cells ROW 126)).drew).cell? x = (w.drew.alloc (.cells ROW 126)).cell? x := fun x => rfl
  have hE2 : ∀ x, ((w.alloc (.cells ROW 126)).drew).frozen? x = (w.drew.alloc (.cells ROW 126)).frozen? x := fun x => rfl
  have hF1 : ∀ x, (((w.alloc (.cells ROW 126)).drew.setCells w.heap.size 0 vs).drew).cell? x = ((w.drew.alloc (.cells ROW 126)).setCells w.heap.size 0 vs).cell? x := fun x => rfl
  have hF2 : ∀ x, (((w.alloc (.cells ROW 126)).drew.setCells w.heap.size 0 vs).drew).frozen? x = ((w.drew.alloc (.cells ROW 126)).setCells w.heap.size 0 vs).frozen? x := fun x => rfl
  have hw0 : IntKind.i64.wrap ((0 : Int) + (m : Int)) = (m : Int) := by rw [IntKind.wrap_i64]; omega
  have hw1 : IntKind.i64.wrap (m : Int) = (m : Int) := by rw [IntKind.wrap_i64]; omega
  have hw2 : IntKind.i64.wrap ((n : Int) + (m : Int)) = (n : Int) + (m : Int) := by rw [IntKind.wrap_i64]; omega
  have hb3 : (0 : Int) ≤ (n : Int) := by omega
  have hb5 : (m : Int) ≤ (n : Int) + (m : Int) := by omega
  clear hkk hold hROW hG hRl
  go_enter Try.func141, Try.ntmps141
  go_wp2_with (first
    | (at_builtin; refine Lib.wpList_append_run _ rfl _ _ _ _ rfl _ _ rfl rfl _ _ (hrz _) ?_)
    | (at_builtin; refine wpList_copy_runI _ rfl _ _ 51 51 rfl _ _ rfl rfl (hcpA _ hE1 hE2 _ _) ?_)
    | (at_builtin; refine wpList_copy_runI _ rfl _ _ 51 51 rfl _ _ rfl rfl (hcpB _ (fun _ => rfl) (fun _ => rfl) _ _ _) ?_))
  go_region_law_o (refine step_copy_runI rfl _ _ 51 51 rfl (.slice (some ⟨w.heap.size, m * 2, none⟩) n (G - m)) (.slice (some ⟨b, 0, none⟩) n c) (by simp [Act.eval, Act.put]) (by simp [Act.eval, Act.put]) (hcpB _ hF1 hF2 3 (G - m) c) ?_)
  go_wp2
  go_ret
  exact ⟨rfl, rfl⟩
end Go.Proofs.Ytailfegmnkldoaa
