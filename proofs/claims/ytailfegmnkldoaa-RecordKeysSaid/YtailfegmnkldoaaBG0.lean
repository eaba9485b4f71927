/- THE KIT'S CONTRACT FOR slices.Grow, LAID AT THIS SEAT'S NUMBERS, and slices.Concat in the model itself. No condition but those stated. -/
import Derived.Shelf.Spec.SlicesGrow
import Derived.Test.YtailfegmnkldoaaProg
import Derived.WalkKit
import Derived.BigCall
import Derived.Below
import Derived.Laws.OwnMore
set_option linter.unusedSimpArgs false
set_option linter.unusedVariables false
set_option linter.unusedSectionVars false
namespace Go.Proofs.Ytailfegmnkldoaa
open Go Go.Proofs Go.Shelf Go.RowKit
set_option maxRecDepth 100000
def gren : Go.Shelf.Ren := ⟨fun | 4 => 195 | n => n, fun | 22 => 36 | 25 => 5 | n => n, fun | n => n⟩
theorem glays : Go.Proofs.Lays8.n4 Try.prog gren := {
  mixed := by kernel_rfl
  f4 := ⟨Try.f195.name, by kernel_rfl, Try.func195.trans (congrArg some (by kernel_rfl))⟩
  t0 := Try.underlying0
  a0 := Try.isAgg0
  z0 := Try.sizeOf0
  v0 := Try.zeroValue0
  t3 := Try.underlying3
  a3 := Try.isAgg3
  z3 := Try.sizeOf3
  v3 := Try.zeroValue3
  t4 := Try.underlying4
  a4 := Try.isAgg4
  z4 := Try.sizeOf4
  v4 := Try.zeroValue4
  t9 := Try.underlying9
  a9 := Try.isAgg9
  z9 := Try.sizeOf9
  v9 := Try.zeroValue9
  t20 := Try.underlying20
  a20 := Try.isAgg20
  z20 := Try.sizeOf20
  v20 := Try.zeroValue20
  t22 := Try.underlying36
  a22 := Try.isAgg36
  z22 := Try.sizeOf36
  v22 := Try.zeroValue36
}
theorem info9 : ∃ i, Try.prog.info? 5 = some i ∧ i.zero = some (.int .u8 0) ∧ i.size = 1 ∧ i.bytes = 1 := by
  have h : (Try.prog.info? 5).map (fun i => (i.zero, i.size, i.bytes)) = some (some (.int .u8 0), 1, 1) := by kernel_rfl
  obtain ⟨i, hi, h2⟩ := Option.map_eq_some_iff.1 h
  simp only [Prod.mk.injEq] at h2
  exact ⟨i, hi, h2.1, h2.2.1, h2.2.2⟩
def GrownP (w : World) (n : Nat) (e : Ending) (w' : World) : Prop := ∃ v, e = .returned v ∧ w'.ownsRow w.heap.size 5 1 v 0 [] ∧ Below w.heap.size w w' ∧ (n = 0 → v = .slice none 0 0)
theorem grow_nil (n : Nat) (hn : n ≤ 4294967296) (w : World) :
    Calls Try.prog 195 #[.slice none 0 0, .int .i64 n] w (GrownP w n) := by
  by_cases h0 : n = 0
  · subst h0
    refine (Any8.slices_Grow_room glays none 0 0 0 w (Nat.le_refl _) (by omega) (by omega) (by omega)).mono ?_
    rintro e w' ⟨rfl, rfl⟩
    exact ⟨_, rfl, World.ownsRow_nil _ _ _ _, Below.refl _ _, fun _ => rfl⟩
  · obtain ⟨i, hi, hz, hs, hb⟩ := info9
    have hg := grownCap_ge w (0 + n) 0 5
    have hgl := grownCap_le_maxLen w (0 + n) 0 5 (by simp only [maxLen]; omega)
    refine (Any8.slices_Grow_grow glays i (.int .u8 0) hi hz (by omega) none 0 0 n [] w (Nat.le_refl _) (by omega) (by rw [hb]; omega) (by omega) (by simp) (fun _ => rfl) (fun a h => by cases h)).mono ?_
    rintro e w' ⟨rfl, rfl⟩
    refine ⟨_, rfl, World.ownsRow_made w.drew _ _ (Nat.le_refl _) hgl ?_, ((Below.refl _ w).drew).alloc (Nat.le_refl _) _, fun h => absurd h h0⟩
    have z1 : (.int .u8 0 : Value).cells.size = 1 := rfl
    have g1 : grownCap w (0 + n) 0 (gren.t 25) = grownCap w (0 + n) 0 5 := rfl
    simp only [Array.size_append, size_zeroCells, z1, Nat.mul_one, List.size_toArray, List.length_nil, g1]
    omega
/-- A row that is put behind others: where it lies, how long, its room, its cells. -/
structure CRow where
  a : Option Addr
  n : Nat
  c : Nat
  xs : List Value
def CRow.ok (w : World) (r : CRow) : Prop := r.xs.length = r.n * 1 ∧ (r.a = none → r.n = 0 ∧ r.c = 0) ∧ (∀ a, r.a = some a → ∀ j u, r.xs[j]? = some u → w.cell? (a.add j) = some u) ∧ ∀ u ∈ r.xs, u.oneCell' = true
def sumN (l : List CRow) : Nat := (l.map (·.n)).sum
theorem sumN_take (l : List CRow) (k : Nat) : sumN (l.take k) ≤ sumN l := by
  induction l generalizing k with
  | nil => simp
  | cons r l ih =>
    cases k with
    | zero => simp [sumN]
    | succ k =>
      have := ih k
      simp only [sumN, List.take_succ_cons, List.map_cons, List.sum_cons] at this ⊢; omega
theorem sumN_succ (l : List CRow) (k : Nat) (r : CRow) (h : l[k]? = some r) : sumN (l.take (k + 1)) = sumN (l.take k) + r.n := by
  rw [List.take_add_one, h]
  simp [sumN]
theorem append_row (w wr : World) (v : Value) (n : Nat) (xs : List Value) (r : CRow) (ho : wr.ownsRow w.heap.size 5 1 v n xs) (hb : Below w.heap.size w wr) (hr : r.ok wr) (hs : n + r.n ≤ 4294967296) :
    ∃ v' w', (∀ ty, (Builtin.append_ #[36, 36] ty #[v, .slice r.a r.n r.c]).run Try.prog wr = .ok v' w') ∧ w'.ownsRow w.heap.size 5 1 v' (n + r.n) (xs ++ r.xs) ∧ Below w.heap.size w w' ∧ (v = .slice none 0 0 → r.n = 0 → v' = .slice none 0 0) := by
  obtain ⟨i, hi, hz, hsz, hby⟩ := info9
  obtain ⟨h1, h2, h3, h4⟩ := hr
  obtain ⟨a, m, c, ys⟩ := r
  dsimp only at *
  have hsize := hb.size
  cases a with
  | none =>
    obtain ⟨rfl, rfl⟩ := h2 rfl
    have : ys = [] := List.eq_nil_of_length_eq_zero (by omega)
    subst this
    refine ⟨v, wr, fun ty => run_append_owned_none wr w.heap.size 36 ty 5 i 1 Try.underlying36 hi v n xs ho, by simpa using ho, hb, fun h _ => h⟩
  | some a =>
    have key : ∀ ty, ∃ v' w', (Builtin.append_ #[36, 36] ty #[v, .slice (some a) m c]).run Try.prog wr = .ok v' w' ∧ w'.ownsRow w.heap.size 5 1 v' (n + m) (xs ++ ys) ∧ wr.grownBy w' v.ownBlock ∧ (v' = .slice none 0 0 ↔ v = .slice none 0 0 ∧ m = 0) := fun ty =>
      run_append_own wr w.heap.size 36 ty 5 i (.int .u8 0) 1 1 Try.underlying36 hi hz hsz hby rfl (by omega) v n xs ho a m c ys (by omega) (h3 a rfl) h4 (by simp only [maxLen]; omega) (by omega) hsize
    obtain ⟨v', w', k1, k2, k3, k4⟩ := key 0
    refine ⟨v', w', fun ty => ?_, k2, hb.grown k3 hsize (fun k hk => (ho.lt k hk).1), fun h h' => k4.2 ⟨h, h'⟩⟩
    rw [← k1]
    rfl
/-- What slices.Concat hands back. -/
def ConcP (rows : List CRow) (w : World) (e : Ending) (w' : World) : Prop := ∃ v, e = .returned v ∧ w'.ownsRow w.heap.size 5 1 v (sumN rows) (rows.flatMap (·.xs)) ∧ Below w.heap.size w w' ∧ (sumN rows = 0 → v = .slice none 0 0)
set_option maxHeartbeats 4000000 in
set_option maxRecDepth 1000000 in
theorem concat_walk (base : Addr) (N cap : Nat) (rows : List CRow) (w : World) (hl : rows.length = N) (hN : N ≤ 4294967296)
    (hc : ∀ i r, rows[i]? = some r → w.cell? (base.add i) = some (.slice r.a r.n r.c)) (hr : ∀ r ∈ rows, r.ok w) (ht : sumN rows ≤ 4294967296) :
    Calls Try.prog 185 #[.slice (some base) N cap] w (ConcP rows w) := by
  go_enter Try.func185, Try.ntmps185
  go_wp2
  go_loopw [3, 11] (fun s i wr => ∃ (k : Nat), k ≤ N ∧ i = .int .i64 k ∧ s = .int .i64 (sumN (rows.take k) : Nat) ∧ wr = w) (fun s i _ => N - (RowKit.intOf i).toNat)
  case atStart => exact ⟨0, by omega, rfl, rfl, rfl⟩
  case round =>
    obtain ⟨k, hk, rfl, rfl, hww⟩ := hrel
    have hww := hww.symm
    subst hww
    by_cases hp : k < N
    · obtain ⟨r, hrk⟩ : ∃ r, rows[k]? = some r := ⟨_, List.getElem?_eq_getElem (by omega)⟩
      have hcell := hc k r hrk
      have hss := sumN_succ rows k r hrk
      have hle := sumN_take rows (k + 1)
      rw [hss] at hle
      have hw : wrap64 ((sumN (rows.take k) : Int) + (r.n : Int)) = (sumN (rows.take k) : Int) + (r.n : Int) := by unfold wrap64; omega
      have hneg : ¬ ((sumN (rows.take k) : Int) + (r.n : Int) < 0) := by omega
      clear hrk hc
      go_wp2
      refine ⟨⟨k + 1, by omega, rfl, ?_, trivial⟩, ?_⟩
      · rw [hss]; rfl
      · show N - ((k : Int) + 1).toNat < N - (k : Int).toNat
        omega
    · obtain rfl : k = N := by omega
      have hall : rows.take k = rows := List.take_of_length_le (by omega)
      rw [hall]
      go_wp2_with (go_at_call 195; refine (grow_nil (sumN rows) ht w).mono ?_)
      rintro e W1 ⟨v, rfl, ho, hb, hn0⟩
      go_wp2
      go_loopw [6, 27] (fun s i wq => ∃ (j : Nat), j ≤ k ∧ i = .int .i64 j ∧ wq.ownsRow w.heap.size 5 1 s (sumN (rows.take j)) ((rows.take j).flatMap (·.xs)) ∧ Below w.heap.size w wq ∧ (sumN rows = 0 → s = .slice none 0 0)) (fun s i _ => k - (RowKit.intOf i).toNat)
      case atStart => exact ⟨0, by omega, rfl, ho, hb, hn0⟩
      case round =>
        obtain ⟨j, hj, rfl, ho1, hb1, hn1⟩ := hrel
        by_cases hp : j < k
        · obtain ⟨r, hrk⟩ : ∃ r, rows[j]? = some r := ⟨_, List.getElem?_eq_getElem (by omega)⟩
          have hcell := hc j r hrk
          have hblk : (base.add j).block < w.heap.size := World.block_lt_of_cell? w (base.add j) hcell
          rw [← hb1.cell (p := base.add j) hblk] at hcell
          have hss := sumN_succ rows j r hrk
          have hle := sumN_take rows (j + 1)
          rw [hss] at hle
          have hok : r.ok wr := by
            obtain ⟨q1, q2, q3, q4⟩ := hr r (List.mem_of_getElem? hrk)
            exact ⟨q1, q2, fun a ha i u hu => by
              have := q3 a ha i u hu
              rw [← this]
              exact hb1.cell (World.block_lt_of_cell? w _ this), q4⟩
          have hxs : (rows.take (j + 1)).flatMap (·.xs) = (rows.take j).flatMap (·.xs) ++ r.xs := by
            rw [List.take_add_one, hrk]
            simp
          obtain ⟨v', w', k1, k2, k3, k4⟩ := append_row w wr _ _ _ r ho1 hb1 hok (by omega)
          rw [← hxs, ← hss] at k2
          clear hrk hok hc hr
          go_wp2_with (at_builtin; refine Lib.wpList_append_run _ rfl _ _ _ _ rfl _ _ rfl rfl _ _ (k1 _) ?_)
          refine ⟨⟨j + 1, by omega, rfl, k2, k3, fun h0 => k4 (hn1 h0) (by have := sumN_take rows (j + 1); omega)⟩, ?_⟩
          show k - ((j : Int) + 1).toNat < k - (j : Int).toNat
          omega
        · obtain rfl : j = k := by omega
          rw [hall] at ho1
          go_wp2
          go_ret
          exact ⟨_, rfl, ho1, hb1, hn1⟩
end Go.Proofs.Ytailfegmnkldoaa
