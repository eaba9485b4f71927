/- THE WALK OF names.joined: the path in short of parts, in the model itself (strings.Builder by the kit's contracts). No condition but those stated. -/
import Derived.Test.YtmogflndepihnaaDoorBL
import Derived.Test.YtmogflndepihnaaDoorNC0
import Derived.WalkKit
import Derived.BigCall
set_option linter.unusedSimpArgs false
set_option linter.unusedVariables false
set_option linter.unusedSectionVars false
namespace Go.Proofs.YtmogflndepihnaaDoor
open Go Go.Proofs Go.Shelf Go.RowKit
open Go.Am (joinB)
theorem wstr (B b : Nat) (bs : List Value) (s : ByteArray) (w : World) (h : Lib.IsBuilderF 125 5 B b bs w) (hlen : bs.length + s.size ≤ 140737488355328) (hBw : B ≤ w.heap.size) :
    Calls Tryd.prog 84 #[.pointer (some ⟨b, 0, none⟩), .string s] w fun e w' => e = .returned (.tuple #[.int .i64 s.size, .nilIface]) ∧ (Lib.BuilderAtF 125 5 B b (.pointer (some ⟨b, 0, none⟩)) (bs ++ Lib.strCells s) w' ∧ Below B w w' ∧ Lib.OthersKept 5 (some b) w w') :=
  Any.Builder_WriteString_k lays166 bextra B b bs s w h hlen hBw
theorem blen (B b : Nat) (bs : List Value) (w : World) (h : Lib.IsBuilderF 125 5 B b bs w) :
    Calls Tryd.prog 85 #[.pointer (some ⟨b, 0, none⟩)] w fun e w' => e = .returned (.int .i64 bs.length) ∧ w' = w := Any.Builder_Len_f lays170 B b bs w h
theorem bstr (B b : Nat) (l : List UInt8) (w : World) (h : Lib.IsBuilderF 125 5 B b (Lib.byteCells l) w) (hB : B ≤ w.heap.size) :
    Calls Tryd.prog 86 #[.pointer (some ⟨b, 0, none⟩)] w fun e w' => e = .returned (.string ⟨l.toArray⟩) ∧ (Lib.IsBuilderF 125 5 B b (Lib.byteCells l) w' ∧ Below B w w' ∧ Lib.OthersKept 5 (some b) w w') := Any.Builder_String_any_k lays169 bextra B b l w h hB
set_option maxHeartbeats 4000000 in
set_option maxRecDepth 1000000 in
theorem joined_walk (base : Addr) (len cap : Nat) (ss : List ByteArray) (w : World) (hl : ss.length = len) (hlen : len ≤ 4294967296)
    (hc : ∀ i, i < len → w.cell? (base.add i) = some (.string (ss.getD i ByteArray.empty))) (hs : (joinB ss).length ≤ 4294967296) :
    Calls Tryd.prog 63 #[.slice (some base) len cap] w fun e w' => e = .returned (.string (if joinB ss = [] then ⟨#[47]⟩ else ⟨(joinB ss).toArray⟩)) ∧ Below w.heap.size w w' := by
  go_enter Tryd.func63, Tryd.ntmps63
  go_wp2
  go_loopw [8] (fun i wr => ∃ (k : Nat), k ≤ len ∧ i = .int .i64 k ∧ Lib.IsBuilderF 125 5 w.heap.size w.heap.size (Lib.byteCells (joinB (ss.take k))) wr ∧ Below w.heap.size w wr) (fun i _ => len - (RowKit.intOf i).toNat)
  case atStart =>
    refine ⟨0, by omega, rfl, ?_, (Below.refl _ w).alloc (Nat.le_refl _) _⟩
    exact Lib.IsBuilderF.of (Lib.fresh_isBuilder 125 5 w)
  case round =>
    obtain ⟨k, hk, rfl, hI, hbw⟩ := hrel
    have hsz := hbw.size
    by_cases hp : k < len
    · have hcell := hc k hp
      have hblk : (base.add k).block < w.heap.size := World.block_lt_of_cell? w (base.add k) hcell
      have hcw : wr.cell? (base.add k) = some (.string (ss.getD k ByteArray.empty)) := by rw [hbw.cell (p := base.add k) hblk]; exact hcell
      have hss : ss[k]? = some (ss.getD k ByteArray.empty) := by rw [List.getD_eq_getElem?_getD, List.getElem?_eq_getElem (by omega)]; rfl
      have hst : joinB (ss.take (k + 1)) = joinB (ss.take k) ++ 47 :: (ss.getD k ByteArray.empty).data.toList := by
        rw [List.take_add_one, hss]
        simp [joinB]
      have hlt : (joinB (ss.take (k + 1))).length ≤ 4294967296 := by
        have : joinB ss = joinB (ss.take (k + 1)) ++ joinB (ss.drop (k + 1)) := by
          rw [joinB, joinB, joinB, ← List.flatMap_append, List.take_append_drop]
        rw [this, List.length_append] at hs
        omega
      rw [hst, List.length_append, List.length_cons] at hlt
      have hsd : (ss.getD k ByteArray.empty).data.toList.length = (ss.getD k ByteArray.empty).size := Array.length_toList
      generalize ss.getD k ByteArray.empty = s at *
      go_wp2_with (go_at_call 84; refine (wstr w.heap.size w.heap.size _ _ _ hI ?_ hsz).mono ?_)
      case refine_1 =>
        rw [Lib.byteCells_length, ByteArray.size_append]
        have : (ByteArray.mk #[47]).size = 1 := rfl
        omega
      rintro e W1 ⟨rfl, h1, b1, k1⟩
      go_wp2
      go_roundw
      case rel =>
        refine ⟨k + 1, by omega, ?_, ?_, hbw.trans b1⟩
        · show Value.int .i64 ((k : Int) + 1) = Value.int .i64 ((k + 1 : Nat) : Int)
          rfl
        · rw [hst, Lib.byteCells_append]
          rw [Lib.strCells_eq, ByteArray.data_append, Array.toList_append] at h1
          exact Or.inr h1
      case measure =>
        show len - ((k : Int) + 1).toNat < len - (k : Int).toNat
        omega
    · have hkl : k = len := by omega
      subst hkl
      rw [List.take_of_length_le (by omega)] at hI
      have hbl : (Lib.byteCells (joinB ss)).length = (joinB ss).length := Lib.byteCells_length _
      go_wp2_with (go_at_call 85; refine (blen w.heap.size w.heap.size _ _ hI).mono ?_)
      rintro e W1 ⟨rfl, rfl⟩
      by_cases hne : joinB ss = []
      · have hz : (((Lib.byteCells (joinB ss)).length : Int) == 0) = true := by rw [hbl, hne]; rfl
        go_wp2
        go_ret
        exact ⟨rfl, hbw⟩
      · have hz : (((Lib.byteCells (joinB ss)).length : Int) == 0) = false := by
          have : (joinB ss).length ≠ 0 := fun e => hne (List.eq_nil_of_length_eq_zero e)
          rw [hbl]
          simpa using this
        go_wp2_with (go_at_call 86; refine (bstr w.heap.size w.heap.size _ _ hI hsz).mono ?_)
        rintro e W2 ⟨rfl, _, b2, _⟩
        go_wp2
        go_ret
        exact ⟨rfl, hbw.trans b2⟩
set_option maxHeartbeats 4000000 in
set_option maxRecDepth 1000000 in
theorem joined_walk0 (base : Option Addr) (cap : Nat) (w : World) :
    Calls Tryd.prog 63 #[.slice base 0 cap] w fun e w' => e = .returned (.string ⟨#[47]⟩) ∧ Below w.heap.size w w' := by
  go_enter Tryd.func63, Tryd.ntmps63
  go_wp2
  go_loopw [8] (fun i wr => i = .int .i64 0 ∧ Lib.IsBuilderF 125 5 w.heap.size w.heap.size (Lib.byteCells []) wr ∧ Below w.heap.size w wr) (fun i _ => 0)
  case atStart => exact ⟨rfl, Lib.IsBuilderF.of (Lib.fresh_isBuilder 125 5 w), (Below.refl _ w).alloc (Nat.le_refl _) _⟩
  case round =>
    obtain ⟨rfl, hI, hbw⟩ := hrel
    go_wp2_with (go_at_call 85; refine (blen w.heap.size w.heap.size _ _ hI).mono ?_)
    rintro e W1 ⟨rfl, rfl⟩
    have hz : (((Lib.byteCells []).length : Int) == 0) = true := rfl
    go_wp2
    go_ret
    exact ⟨rfl, hbw⟩
end Go.Proofs.YtmogflndepihnaaDoor
