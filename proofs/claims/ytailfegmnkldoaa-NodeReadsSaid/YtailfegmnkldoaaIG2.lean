/- THE CONTRACT OF slices.Insert, IN MEMORY, STANDS. No condition but those stated. -/
import Derived.Test.YtailfegmnkldoaaIG0
import Derived.Test.YtailfegmnkldoaaIG1
import Derived.Test.YtailfegmnkldoaaAmTop
import Derived.Test.YtailfegmnkldoaaChecked
set_option linter.unusedSimpArgs false
set_option linter.unusedVariables false
set_option linter.unusedSectionVars false
namespace Go.Proofs.Ytailfegmnkldoaa
open Go Go.Am Go.RowKit
set_option linter.unusedSimpArgs false
variable [Thaw]
theorem setCell_blk {w : World} {b o : Nat} {v : Value} {cur : Array Value} {t : TypeId} {fr : Nat × Nat} (h : w.heap[b]? = some (.cells cur t fr)) : (w.setCell ⟨b, o, none⟩ v).heap[b]? = some (.cells (cur.setIfInBounds o v) t fr) := by
  simp [World.setCell, Array.getElem?_modify, h]
theorem setCell_grown (w : World) (b o : Nat) (v : Value) : w.grownBy (w.setCell ⟨b, o, none⟩ v) (some b) := by
  refine ⟨rfl, rfl, rfl, by simp [World.setCell], fun k hk hne => ?_⟩
  have : b ≠ k := fun e => hne (by rw [e])
  simp [World.setCell, Array.getElem?_modify, this]
theorem grown_trans {a b c : World} {r : Option Nat} (h : a.grownBy b r) (k : b.grownBy c r) : a.grownBy c r :=
  ⟨k.os.trans h.os, k.tape.trans h.tape, k.output.trans h.output, Nat.le_trans h.size k.size, fun i hi hn => (k.block i (Nat.lt_of_lt_of_le hi h.size) hn).trans (h.block i hi hn)⟩
theorem drew_grown (w : World) (r : Option Nat) : w.grownBy w.drew r := ⟨rfl, rfl, rfl, Nat.le_refl _, fun _ _ _ => rfl⟩
theorem setCells_grown (b : Nat) : ∀ (vs : List Value) (o : Nat) (w : World), w.grownBy (w.setCells b o vs) (some b)
  | [], _, w => ⟨rfl, rfl, rfl, Nat.le_refl _, fun _ _ _ => rfl⟩
  | v :: r, o, w => grown_trans (setCell_grown w b o v) (setCells_grown b r (o + 1) _)
theorem setCells_blk {b : Nat} {t : TypeId} {fr : Nat × Nat} : ∀ (vs : List Value) (o : Nat) (w : World) (cur : Array Value), w.heap[b]? = some (.cells cur t fr) → o + vs.length ≤ cur.size →
    ∃ new : Array Value, (w.setCells b o vs).heap[b]? = some (.cells new t fr) ∧ new.toList = cur.toList.take o ++ vs ++ cur.toList.drop (o + vs.length)
  | [], o, w, cur, h, _ => ⟨cur, h, by simp⟩
  | v :: r, o, w, cur, h, hl => by
    simp only [List.length_cons] at hl
    obtain ⟨new, h1, h2⟩ := setCells_blk r (o + 1) _ _ (setCell_blk (o := o) (v := v) h) (by simp; omega)
    refine ⟨new, h1, ?_⟩
    rw [h2, Array.toList_setIfInBounds]
    have ho : o < cur.toList.length := by simp; omega
    have e1 : (cur.toList.set o v).take (o + 1) = cur.toList.take o ++ [v] := by
      rw [List.take_add_one, List.getElem?_set_self ho, List.take_set_of_le (Nat.le_refl _)]
      rfl
    have e2 : (cur.toList.set o v).drop (o + 1 + r.length) = cur.toList.drop (o + 1 + r.length) := List.drop_set_of_lt (by omega)
    rw [e1, e2]
    simp [Nat.add_assoc, Nat.add_comm 1]
theorem insOk : IConOk Try.prog 141 insC := by
  intro args H o H' hg w0 V W us hW hr
  refine ⟨callFunc_run Try.func141 rfl rfl us, ?_⟩
  show CallsIn Fence.wide 0 Try.prog 141 us W (OutPost Try.prog w0 V H' o)
  refine callsIn_wide.2 ?_
  unfold insC at hg
  split at hg
  case h_2 => cases hg
  rename_i id n m ds
  split at hg
  case h_2 => cases hg
  rename_i cs hid
  split at hg
  case isFalse => cases hg
  rename_i hcnd
  obtain ⟨hcl, hn0, hm0, hds, hcone, hone, hmx⟩ := hcnd
  cases hg
  obtain ⟨u0, u1, u2, rfl, r0, r1, r2⟩ : ∃ u0 u1 u2, us = #[u0, u1, u2] ∧ Rep V (.rsl 2 id n) u0 ∧ Rep V (.int .i64 0) u1 ∧ Rep V (.sl 2 m ds .ro) u2 := by
    match hu : us.toList, hr with
    | [a, b, c], hr => exact ⟨a, b, c, by rw [← Array.toList_inj, hu], hr.head, hr.tail.head, hr.tail.tail.head⟩
    | [], hr => have := hr.1; simp at this
    | [_], hr => have := hr.1; simp at this
    | [_, _], hr => have := hr.1; simp at this
    | _ :: _ :: _ :: _ :: _, hr => have := hr.1; simp at this
  cases r1
  cases r0 with
  | rsl hl hncap =>
  rename_i gb cap
  rcases rep_sl r2 with ⟨_, rfl, _⟩ | ⟨_, _, rfl, _⟩ | ⟨vb, voff, vc, fx, rfl, k1, k2, k3, k4, k5⟩
  · omega
  · omega
  obtain ⟨vs0, hrv, hca⟩ := cellsAt_imm hW k4 k5
  have hnr : RepL V (ds.take (m * 2)) (vs0.take (m * 2)) := hrv.take _
  have hnl : (vs0.take (m * 2)).length = m * 2 := by rw [← hnr.1, List.length_take]; omega
  have hn1 := hnr.allOne hone
  have hnews : ∀ j u, (vs0.take (m * 2))[j]? = some u → W.cell? ⟨vb, voff + j, none⟩ = some u := fun j u hj => by
    rw [List.getElem?_take] at hj
    split at hj
    · exact hca j u hj
    · cases hj
  generalize vs0.take (m * 2) = vs at *
  obtain ⟨b', cur, ty, hb', hge, hcur, hxs, hxone, himm, hrw⟩ := hW.obj id _ hid
  have hbk : blkOf V id = some gb := by simp [blkOf, hl]
  rw [hbk] at hb'
  cases hb'
  obtain ⟨hcsz, hcapm⟩ := hrw _ _ _ hl
  rw [hcl] at hxs hxone
  have hlen : (cur.toList.take (n * 2)).length = n * 2 := by rw [← hxs.1]; exact hcl
  have hvb : vb ≠ gb := by
    intro e
    have h1 := k4 0 (by omega)
    rw [e] at h1
    have := himm (voff + 0)
    rw [this] at h1
    cases h1
  have hone2 : allOne (ds.take (m * 2) ++ cs) = true := by
    rw [allOne_iff]
    intro x hx'
    rcases List.mem_append.1 hx' with hx' | hx'
    · exact (allOne_iff _).1 hone x hx'
    · exact (allOne_iff _).1 hcone x hx'
  have hcl2 : (ds.take (m * 2) ++ cs).length = (n + m) * 2 := by rw [List.length_append, List.length_take, hcl]; omega
  have holds : ∀ j v, (cur.toList.take (n * 2))[j]? = some v → W.cell? ⟨gb, j, none⟩ = some v := by
    intro j u hj
    rw [List.getElem?_take] at hj
    split at hj
    · simp only [World.cell?, hcur]
      simpa using hj
    · cases hj
  have hK := hW.kill id
  have hlenH : (H.set id .dead).length = H.length := List.length_set
  have other : ∀ (j : Nat) (q : AObj), (H.set id .dead)[j]? = some q → q.live = true → blkOf V j ≠ some gb := by
    intro j q ho' hlo hb
    rw [List.getElem?_set] at ho'
    split at ho'
    · split at ho'
      · cases ho'; cases hlo
      · cases ho'
    · rename_i hne
      exact hne (hW.inj id j _ q gb hid ho' rfl hlo hbk hb)
  have hl2 : (vs ++ cur.toList.take (n * 2)).length = (n + m) * 2 := by rw [List.length_append, hnl, hlen]; omega
  by_cases hroom : n + m ≤ cap
  · -- in place
    obtain ⟨ca, tA, fr, hsa, hca0⟩ : ∃ (ca : Array Value) (tA : TypeId) (fr : Nat × Nat), W.heap[vb]? = some (.cells ca tA fr) ∧ ca.size ≠ 0 := by
      have h1 := hnews 0 _ (List.getElem?_eq_getElem (by omega))
      unfold World.cell? at h1
      split at h1
      · rename_i c t f hh
        refine ⟨c, t, f, hh, fun e => ?_⟩
        split at h1
        · cases h1
        · have := (Array.getElem?_eq_some_iff.1 h1).1
          omega
      · cases h1
    have hcap63 : cap ≤ 9223372036854775807 := by unfold maxLen at hcapm; omega
    refine (insert_room gb n cap vb voff m vc (cur.toList.take (n * 2)) vs W hn0 hm0 hroom hcap63 hvb hlen hnl holds (fun j hj => ?_) hnews hxone hn1 ca cur tA ty fr hsa hca0 hcur).mono ?_
    · simp only [World.cell?, hcur]
      have : j < cur.size := by rw [hcsz]; exact Nat.lt_of_lt_of_le hj (Nat.mul_le_mul_right _ hroom)
      simp [this]
    rintro e W' ⟨rfl, rfl⟩
    have hcd : W.drew.heap[gb]? = some (.cells cur ty (0, 0)) := hcur
    have fit : (n + m) * 2 ≤ cur.size := by rw [hcsz]; exact Nat.mul_le_mul_right _ hroom
    obtain ⟨m1, q1, q2⟩ := setCells_blk (cur.toList.take (n * 2)) (m * 2) W.drew cur hcd (by rw [hlen]; omega)
    have s1 : m1.size = cur.size := by
      have := congrArg List.length q2
      simp only [List.length_append, List.length_take, List.length_drop, Array.length_toList] at this
      omega
    obtain ⟨m2, q3, q4⟩ := setCells_blk vs 0 (W.drew.setCells gb (m * 2) (cur.toList.take (n * 2))) m1 q1 (by omega)
    have e2 : m2.toList = vs ++ cur.toList.take (n * 2) ++ cur.toList.drop ((n + m) * 2) := by
      rw [q4, q2, List.take_zero, List.nil_append, Nat.zero_add, hnl, List.append_assoc, List.drop_left' (by simp; omega), hlen]
      rw [show m * 2 + n * 2 = (n + m) * 2 by omega, List.append_assoc]
    have s2 : m2.size = cur.size := by
      have := congrArg List.length e2
      simp only [List.length_append, List.length_take, List.length_drop, Array.length_toList] at this
      omega
    have hgr : W.grownBy ((W.drew.setCells gb (m * 2) (cur.toList.take (n * 2))).setCells gb 0 vs) (some gb) :=
      grown_trans (grown_trans (show W.grownBy W.drew (some gb) from ⟨rfl, rfl, rfl, Nat.le_refl _, fun _ _ _ => rfl⟩) (setCells_grown gb _ _ W.drew)) (setCells_grown gb _ _ _)
    generalize (W.drew.setCells gb (m * 2) (cur.toList.take (n * 2))).setCells gb 0 vs = W' at *
    have hs : Stp V W (V.at H.length (.row gb 2 cap)) W' (some gb) := ⟨View.le_at (hW.fresh _ (Nat.le_refl _)) _, hgr, fun _ _ hp => .inl hp⟩
    refine ⟨V.at H.length (.row gb 2 cap), hs.grow hW.size (fun b hb => by cases hb; exact hge), ?_, .rsl (View.at_self V H.length (.row gb 2 cap)) hroom⟩
    refine hK.push' hs (fun j q b ho' hlo hb he => ?_) (fun b hb => by cases hb; exact hge) (fun p v hp => ?_) (fun j hj => ?_) ⟨gb, _, ty, ?_, hge, q3, ?_, ?_, fun off => himm off, fun b' sz cap' he => ?_⟩ (fun b hb j q ho' hlo => ?_)
    · cases he; exact other j q ho' hlo hb
    · obtain ⟨h1, h2⟩ := hW.imm p v hp
      refine ⟨hgr.cell h1 (fun e => ?_), h2⟩
      have hblk : p.block = gb := by simpa using e
      have hspot : p.spot = none := by
        cases hsp : p.spot with
        | none => rfl
        | some q =>
          exfalso
          unfold World.cell? at h1
          rw [hblk, hcur] at h1
          simp [hsp] at h1
      obtain ⟨pb, po, ps⟩ := p
      simp only at hblk hspot
      subst hblk hspot
      have := himm po
      have hp' : V.imm ⟨pb, po, none⟩ = some v := hp
      rw [this] at hp'
      cases hp'
    · rw [hlenH] at hj
      exact at_fresh hW _ j hj
    · rw [hlenH, View.at_is]; rfl
    · rw [hcl2, e2, List.take_left' hl2]
      exact (hnr.append hxs).mono hs.le
    · rw [hcl2, e2, List.take_left' hl2]
      intro v hv
      exact (List.mem_append.1 hv).elim (hn1 v) (hxone v)
    · rw [hlenH, View.at_self] at he
      cases he
      exact ⟨by rw [s2]; exact hcsz, hcapm⟩
    · rw [hlenH, View.at_is] at hb
      cases hb
      exact other j q ho' hlo
  · -- in a new row
    refine (insert_grow gb n cap vb voff m vc (cur.toList.take (n * 2)) vs W hn0 hm0 hncap (by omega) (by omega) hlen hnl holds hnews hxone hn1).mono ?_
    rintro e W' ⟨rfl, rfl⟩
    have hcap2 := grownCap_ge W (n + m) cap 126
    have hcm2 := grownCap_le_maxLen W (n + m) cap 126 (by unfold maxLen; omega)
    generalize grownCap W (n + m) cap 126 = G at *
    have hrs : (Builtin.zeroCells (Value.agg #[.int .i64 0, .int .u64 0]).cells (n + m) ++ Builtin.zeroCells (Value.agg #[.int .i64 0, .int .u64 0]).cells (G - (n + m))).size = G * 2 := by
      simp only [Array.size_append, size_zeroCells]
      show (n + m) * 2 + (G - (n + m)) * 2 = G * 2
      omega
    generalize Builtin.zeroCells (Value.agg #[.int .i64 0, .int .u64 0]).cells (n + m) ++ Builtin.zeroCells (Value.agg #[.int .i64 0, .int .u64 0]).cells (G - (n + m)) = ROW at *
    have hnb : (W.alloc (.cells ROW 126)).drew.heap[W.heap.size]? = some (.cells ROW 126 (0, 0)) := by
      show (W.heap.push (.cells ROW 126))[W.heap.size]? = _
      simp
    obtain ⟨m1, q1, q2⟩ := setCells_blk vs 0 (W.alloc (.cells ROW 126)).drew ROW hnb (by omega)
    have s1 : m1.size = ROW.size := by
      have := congrArg List.length q2
      simp only [List.length_append, List.length_take, List.length_drop, Array.length_toList] at this
      omega
    have q1' : ((W.alloc (.cells ROW 126)).drew.setCells W.heap.size 0 vs).drew.heap[W.heap.size]? = some (.cells m1 126 (0, 0)) := q1
    obtain ⟨m2, q3, q4⟩ := setCells_blk (cur.toList.take (n * 2)) (m * 2) _ m1 q1' (by rw [hlen]; omega)
    have e2 : m2.toList = vs ++ cur.toList.take (n * 2) ++ ROW.toList.drop ((n + m) * 2) := by
      rw [q4, q2, List.take_zero, List.nil_append, Nat.zero_add, List.take_left' hnl, hlen, List.drop_append, List.drop_of_length_le (by omega), List.nil_append, List.drop_drop, hnl]
      congr 2
      omega
    have s2 : m2.size = G * 2 := by
      have := congrArg List.length e2
      simp only [List.length_append, List.length_take, List.length_drop, Array.length_toList] at this
      omega
    have hgr0 : (W.alloc (.cells ROW 126)).grownBy ((((W.alloc (.cells ROW 126)).drew.setCells W.heap.size 0 vs).drew).setCells W.heap.size (m * 2) (cur.toList.take (n * 2))) (some W.heap.size) :=
      grown_trans (grown_trans (grown_trans (drew_grown _ _) (setCells_grown W.heap.size _ _ (W.alloc (.cells ROW 126)).drew)) (drew_grown _ _)) (setCells_grown W.heap.size _ _ _)
    generalize (((W.alloc (.cells ROW 126)).drew.setCells W.heap.size 0 vs).drew).setCells W.heap.size (m * 2) (cur.toList.take (n * 2)) = W' at *
    have hgr : W.grownBy W' none := by
      refine ⟨hgr0.os.trans rfl, hgr0.tape.trans rfl, hgr0.output.trans rfl, ?_, fun k hk _ => ?_⟩
      · have := hgr0.size
        have e : (W.alloc (.cells ROW 126)).heap.size = W.heap.size + 1 := by
          show (W.heap.push (.cells ROW 126)).size = _
          simp
        omega
      · have e : (W.alloc (.cells ROW 126)).heap.size = W.heap.size + 1 := by
          show (W.heap.push (.cells ROW 126)).size = _
          simp
        rw [hgr0.block k (by omega) (by simp; omega)]
        show (W.heap.push (.cells ROW 126))[k]? = _
        simp [Array.getElem?_push, Nat.ne_of_lt hk]
    have hs : Stp V W (V.at H.length (.row W.heap.size 2 G)) W' none := ⟨View.le_at (hW.fresh _ (Nat.le_refl _)) _, hgr, fun _ _ hp => .inl hp⟩
    refine ⟨V.at H.length (.row W.heap.size 2 G), hs.grow hW.size (by simp), ?_, .rsl (View.at_self V H.length (.row W.heap.size 2 G)) hcap2⟩
    refine hK.push hs (fun p v hp => ⟨hgr.cell (hW.imm p v hp).1 (by simp), (hW.imm p v hp).2⟩) (fun j hj => ?_) ⟨W.heap.size, _, 126, ?_, hW.size, q3, ?_, ?_, fun off => ?_, fun b' sz cap' he => ?_⟩ (fun b hb => ?_)
    · rw [hlenH] at hj
      exact at_fresh hW _ j hj
    · rw [hlenH, View.at_is]; rfl
    · rw [hcl2, e2, List.take_left' hl2]
      exact (hnr.append hxs).mono hs.le
    · rw [hcl2, e2, List.take_left' hl2]
      intro v hv
      exact (List.mem_append.1 hv).elim (hn1 v) (hxone v)
    · cases hp : V.imm ⟨W.heap.size, off, none⟩ with
      | none => exact hp
      | some v =>
        have := World.block_lt_of_cell? W _ (hW.imm _ v hp).1
        simp at this
    · rw [hlenH, View.at_self] at he
      cases he
      exact ⟨s2, hcm2⟩
    · rw [hlenH, View.at_is] at hb
      cases hb
      exact Nat.le_refl _
end Go.Proofs.Ytailfegmnkldoaa
