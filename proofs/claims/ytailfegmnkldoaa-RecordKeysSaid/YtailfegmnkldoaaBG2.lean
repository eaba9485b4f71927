/- THE CONTRACT OF slices.Concat STANDS. No condition but those stated. -/
import Derived.Test.YtailfegmnkldoaaBG0
import Derived.Test.YtailfegmnkldoaaBG1
import Derived.Test.YtailfegmnkldoaaAmTop
import Derived.Test.YtailfegmnkldoaaChecked
set_option linter.unusedSimpArgs false
set_option linter.unusedVariables false
set_option linter.unusedSectionVars false
namespace Go.Proofs.Ytailfegmnkldoaa
open Go Go.Am Go.RowKit
variable [Thaw]
theorem add_none' (b o i : Nat) : (⟨b, o, none⟩ : Addr).add i = ⟨b, o + i, none⟩ := by unfold Addr.add; split <;> simp_all
theorem row_inv0 {V : View} {W : World} (hi : ∀ p v, V.imm p = some v → W.cell? p = some v ∧ v.oneCell' = true) {s n k : Nat} {cs : List AV} {tk : Tk} {v : Value} (h : Rep V (.sl s n cs tk) v) (hs : n = 0 ∨ s = k) (hn : n * k ≤ cs.length) :
    ∃ (a : Option Addr) (c : Nat) (xs : List Value), v = .slice a n c ∧ xs.length = n * k ∧ (a = none → n = 0 ∧ c = 0) ∧ (∀ a', a = some a' → ∀ j u, xs[j]? = some u → W.cell? (a'.add j) = some u) ∧ (∀ u ∈ xs, u.oneCell' = true) ∧ RepL V (cs.take (n * k)) xs := by
  have main : ∀ (b o cap : Nat) (f : Nat → Value), v = .slice (some ⟨b, o, none⟩) n cap → (∀ i, i < cs.length → V.imm ⟨b, o + i, none⟩ = some (f i)) → (∀ (i : Nat) (x : AV), cs[i]? = some x → Rep V x (f i)) → ∃ (a : Option Addr) (c : Nat) (xs : List Value), v = .slice a n c ∧ xs.length = n * k ∧ (a = none → n = 0 ∧ c = 0) ∧ (∀ a', a = some a' → ∀ j u, xs[j]? = some u → W.cell? (a'.add j) = some u) ∧ (∀ u ∈ xs, u.oneCell' = true) ∧ RepL V (cs.take (n * k)) xs := by
    intro b o cap f e h1 h2
    refine ⟨some ⟨b, o, none⟩, cap, (List.range (n * k)).map f, e, by simp, fun h => (by cases h), ?_, ?_, ?_, ?_⟩
    · intro a ha j u hu
      cases ha
      simp only [List.getElem?_map, Option.map_eq_some_iff] at hu
      obtain ⟨q, hk, rfl⟩ := hu
      obtain ⟨hlt, rfl⟩ := List.getElem?_eq_some_iff.1 hk
      simp only [List.length_range] at hlt
      simp only [List.getElem_range]
      rw [add_none']
      exact (hi _ _ (h1 j (by omega))).1
    · intro u hu
      obtain ⟨j, hj, rfl⟩ := List.mem_map.1 hu
      have := List.mem_range.1 hj
      exact (hi _ _ (h1 j (by omega))).2
    · simp; omega
    · intro i x v hx hv
      simp only [List.getElem?_map, Option.map_eq_some_iff] at hv
      obtain ⟨q, hk, rfl⟩ := hv
      obtain ⟨hlt, rfl⟩ := List.getElem?_eq_some_iff.1 hk
      simp only [List.getElem_range]
      rw [List.getElem?_take] at hx
      split at hx
      · exact h2 i x hx
      · cases hx
  cases h with
  | slnil => exact ⟨none, 0, [], rfl, by simp, fun _ => ⟨rfl, rfl⟩, fun a h => (by cases h), fun u h => (by cases h), by simpa using RepL.nil _⟩
  | slx _ a => exact ⟨some a, 0, [], rfl, by simp, fun h => (by cases h), fun a _ j u h => (by simp at h), fun u h => (by cases h), by simpa using RepL.nil _⟩
  | sl f a1 a2 a3 a4 a5 => exact main _ _ _ f rfl a4 a5
  | slo f a1 a2 a3 a4 a5 => exact main _ 0 _ f rfl (fun i h => by rw [Nat.zero_add]; exact a4 i h) a5
theorem row_inv {V : View} {W : World} (hi : ∀ p v, V.imm p = some v → W.cell? p = some v ∧ v.oneCell' = true) {s n : Nat} {cs : List AV} {tk : Tk} {v : Value} (h : Rep V (.sl s n cs tk) v) (hs : n = 0 ∨ s = 1) (hn : n * 1 ≤ cs.length) :
    ∃ r : CRow, v = .slice r.a r.n r.c ∧ r.ok W ∧ RepL V (cs.take (n * 1)) r.xs ∧ r.n = n := by
  obtain ⟨a, c, xs, h1, h2, h3, h4, h5, h6⟩ := row_inv0 hi h hs hn
  exact ⟨⟨a, n, c, xs⟩, h1, ⟨h2, h3, h4, h5⟩, h6, rfl⟩
theorem rows_inv {V : View} {W : World} (hi : ∀ p v, V.imm p = some v → W.cell? p = some v ∧ v.oneCell' = true) : ∀ {cells : List AV} {vals : List Value} {L : List (List AV)}, RepL V cells vals → rowsA cells = some L →
    ∃ rows : List CRow, rows.length = cells.length ∧ (∀ (i : Nat) (r : CRow), rows[i]? = some r → vals[i]? = some (.slice r.a r.n r.c)) ∧ (∀ r ∈ rows, r.ok W) ∧ RepL V L.flatten (rows.flatMap (·.xs)) ∧ sumN rows * 1 = L.flatten.length
  | [], vals, L, h, hL => by
    cases hL
    exact ⟨[], rfl, fun i r h => (by simp at h), fun r h => (by cases h), RepL.nil _, rfl⟩
  | x :: cells, [], L, h, hL => by have := h.1; simp at this
  | x :: cells, v :: vals, L, h, hL => by
    unfold rowsA at hL
    split at hL
    · cases ‹_ :: _ = []›
    · rename_i s n cs tk r heq
      cases heq
      split at hL
      · rename_i hc
        obtain ⟨L', h1, rfl⟩ := Option.map_eq_some_iff.1 hL
        obtain ⟨r0, k1, k2, k3, k4⟩ := row_inv hi h.head hc.1 hc.2
        obtain ⟨rows, j1, j2, j3, j4, j5⟩ := rows_inv hi h.tail h1
        have hxl := k3.1
        rw [List.length_take] at hxl
        refine ⟨r0 :: rows, by simp [j1], fun i r hr => ?_, fun r hr => ?_, ?_, ?_⟩
        · cases i with
          | zero => simp at hr; subst hr; simp [k1]
          | succ i => simpa using j2 i r (by simpa using hr)
        · rcases List.mem_cons.1 hr with rfl | hr
          · exact k2
          · exact j3 r hr
        · exact k3.append j4
        · have := k2.1
          simp only [sumN, List.map_cons, List.sum_cons, List.flatten_cons, List.length_append, List.length_take] at j5 ⊢
          omega
      · cases hL
    · cases hL
theorem con_of (f : FuncId) (hf : ∀ (W : World) (us : Array Value), (callFunc f us).run Try.prog W = .ok (.enter f us) W)
    (hw : ∀ (base : Addr) (N cap : Nat) (rows : List CRow) (w : World), rows.length = N → N ≤ 4294967296 → (∀ (i : Nat) (r : CRow), rows[i]? = some r → w.cell? (base.add i) = some (.slice r.a r.n r.c)) → (∀ r ∈ rows, r.ok w) → sumN rows ≤ 4294967296 → Calls Try.prog f #[.slice (some base) N cap] w (ConcP rows w)) :
    ConOk Try.prog f concC := by
  intro args r hg V W us hi hr
  refine ⟨hf W us, ?_⟩
  show CallsIn Fence.wide 0 Try.prog f us W (PcPost V W r)
  refine callsIn_wide.2 ?_
  unfold concC at hg
  split at hg
  case h_2 => cases hg
  rename_i n cs tk
  split at hg
  case h_2 => cases hg
  rename_i L hL
  split at hg
  case isFalse => cases hg
  rename_i hcnd
  obtain ⟨hn0, hnc, hn, htl⟩ := hcnd
  cases hg
  have hus : ∃ v, us = #[v] ∧ Rep V (.sl 1 n cs tk) v := by
    have h1 := hr.1
    match hu : us.toList, hr with
    | [v], hr => exact ⟨v, by rw [← Array.toList_inj, hu], hr.head⟩
    | [], hr => have := hr.1; simp at this
    | _ :: _ :: _, hr => have := hr.1; simp at this
  obtain ⟨v, rfl, hv⟩ := hus
  obtain ⟨a, c, xs, e0, q1, q2, q3, q4, rep0⟩ := row_inv0 (k := 1) hi hv (.inr rfl) (by omega)
  rw [Nat.mul_one] at q1 rep0
  obtain ⟨rows, j1, j2, j3, j4, j5⟩ := rows_inv hi rep0 hL
  have hxl := rep0.1
  rw [List.length_take] at hxl
  cases a with
  | none => have := (q2 rfl).1; omega
  | some a =>
    subst e0
    refine (hw a n c rows W (by rw [j1, List.length_take]; omega) hn (fun i r hr => q3 a rfl i _ (j2 i r hr)) j3 (by omega)).mono ?_
    rintro e W' ⟨v, rfl, ho, hb, hnil⟩
    have hsn : sumN rows = L.flatten.length / 1 := by omega
    rw [hsn] at ho hnil
    by_cases hz : L.flatten = []
    · rw [if_pos hz]
      obtain rfl := hnil (by rw [hz]; rfl)
      refine ⟨V.imm, hb, fun p v hp => ?_, fun p v hp => hp, fun p v hp => .inl hp, .slnil 0⟩
      obtain ⟨h1, h2⟩ := hi p v hp
      exact ⟨by rw [hb.cell (World.block_lt_of_cell? W p h1)]; exact h1, h2⟩
    · rw [if_neg hz]
      have hnz : L.flatten.length / 1 ≠ 0 := fun e => hz (List.eq_nil_of_length_eq_zero (by omega))
      have hcells := fun {g} => ho.cells (g := g)
      rcases ho.2 with ⟨rfl, h0⟩ | ⟨g, cap, cur, rfl, hbg, hg, hncap, hcm, hcs, htk⟩
      · exact absurd h0 hnz
      have hcell := ho.cells (g := g) rfl
      have hy1 : ∀ u ∈ rows.flatMap (·.xs), u.oneCell' = true := by
        intro u hu
        obtain ⟨r, hr, hu⟩ := List.mem_flatMap.1 hu
        exact (j3 r hr).2.2.2 u hu
      generalize rows.flatMap (·.xs) = ys at *
      have hlt : ∀ p v, V.imm p = some v → p.block < W.heap.size := fun p v hp => World.block_lt_of_cell? W p (hi p v hp).1
      refine ⟨fun p => if p.block = g ∧ p.spot = none then ys[p.off]? else V.imm p, hb, fun p v hp => ?_, fun p v hp => ?_, fun p v hp => ?_, ?_⟩
      · simp only at hp
        split at hp
        · rename_i hpg
          obtain ⟨b, o, s⟩ := p
          simp only at hpg hp
          obtain ⟨rfl, rfl⟩ := hpg
          have := hcell _ _ hp
          rw [add_none', Nat.zero_add] at this
          exact ⟨this, hy1 _ (List.mem_of_getElem? hp)⟩
        · obtain ⟨h1, h2⟩ := hi p v hp
          exact ⟨by rw [hb.cell (hlt p v hp)]; exact h1, h2⟩
      · simp only
        rw [if_neg (by rintro ⟨h, _⟩; have := hlt p v hp; omega)]
        exact hp
      · simp only at hp
        split at hp
        · rename_i hpg; exact .inr (by omega)
        · exact .inl hp
      · have hyl := j4.1
        have hIV : ∀ (Lc : Nat → Option Am.Loc), (∀ i l, V.loc i = some l → Lc i = some l) → ∀ {x : AV} {u : Value}, Rep V x u → Rep ⟨fun p => if p.block = g ∧ p.spot = none then ys[p.off]? else V.imm p, Lc⟩ x u := fun Lc hLc x u hr => by
          refine Rep.mono (V := V) (V' := ⟨fun p => if p.block = g ∧ p.spot = none then ys[p.off]? else V.imm p, Lc⟩) ⟨fun p v hp => ?_, hLc⟩ hr
          show (if p.block = g ∧ p.spot = none then ys[p.off]? else V.imm p) = some v
          rw [if_neg (by rintro ⟨h, _⟩; have := hlt p v hp; omega)]
          exact hp
        refine ⟨5, ys, g, cap, rfl, ho, fun off hoff => ?_, ?_, fun Lc g' hLc hg' => ?_⟩
        · simp only [and_self, if_true]
          exact List.getElem?_eq_none (by omega)
        · refine .sl (fun i => ys.getD i undef) (by omega) (by omega) hncap (fun i hi2 => ?_) (fun i x hx => ?_) (.inl rfl)
          · simp only [if_true, and_self, Nat.zero_add]
            rw [List.getD_eq_getElem?_getD, List.getElem?_eq_getElem (by omega)]; rfl
          · obtain ⟨u, hu, hr⟩ := j4.get hx
            rw [List.getD_eq_getElem?_getD, hu]
            exact hIV _ (fun _ _ h => h) hr
        · refine .slo (fun i => ys.getD i undef) (by omega) hncap hg' (fun i hi2 => ?_) (fun i x hx => ?_)
          · simp only [if_true, and_self]
            rw [List.getD_eq_getElem?_getD, List.getElem?_eq_getElem (by omega)]; rfl
          · obtain ⟨u, hu, hr⟩ := j4.get hx
            rw [List.getD_eq_getElem?_getD, hu]
            exact hIV _ hLc hr
theorem concOk : ConOk Try.prog 185 concC := con_of 185 (fun _ us => callFunc_run Try.func185 rfl rfl us) concat_walk
end Go.Proofs.Ytailfegmnkldoaa
