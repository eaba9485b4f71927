/- THE PLAIN MODEL OF RECORD: bytes laid into words, and back; names; records. No condition. -/
import Derived.Test.YtailfegmnkldoaaAmSet
set_option linter.unusedSimpArgs false
set_option linter.unusedVariables false
set_option linter.unusedSectionVars false
namespace Go.Rec
open Go Go.Am
def byA (b : UInt8) : List AV := [byteA b]
def u64A (j : Int) : List AV := [.int .u64 j]
def putA (p : Int × Int) : List AV := [.int .i64 p.1, .int .u64 p.2]
instance : Even byA 1 := ⟨fun _ => rfl⟩
instance : Even u64A 1 := ⟨fun _ => rfl⟩
instance : Even putA 2 := ⟨fun _ => rfl⟩
theorem hf_byA (l : List UInt8) : hfL (encs byA l) = true := hfL_encs (fun _ => rfl) l
theorem hf_u64A (l : List Int) : hfL (encs u64A l) = true := hfL_encs (fun _ => rfl) l
theorem hf_putA (l : List (Int × Int)) : hfL (encs putA l) = true := hfL_encs (fun _ => rfl) l
theorem one_byA (l : List UInt8) : allOne (encs byA l) = true := allOne_encs (fun _ => rfl) l
theorem one_u64A (l : List Int) : allOne (encs u64A l) = true := allOne_encs (fun _ => rfl) l
theorem one_putA (l : List (Int × Int)) : allOne (encs putA l) = true := allOne_encs (fun _ => rfl) l
theorem bytesA_encs (s : ByteArray) : bytesA s = encs byA s.data.toList := by
  unfold bytesA
  induction s.data.toList with
  | nil => rfl
  | cons x r ih => rw [List.map_cons, encs_cons, ih]; rfl
theorem unbytes_encs : ∀ l : List UInt8, unbytes (encs byA l) = some l
  | [] => rfl
  | b :: r => by
    show (unbytes (encs byA r)).map (UInt8.ofNat (b.toNat : Int).toNat :: ·) = _
    rw [unbytes_encs r]
    simp
/-- The word of bytes, least first. -/
def wordM : List UInt8 → Int
  | [] => 0
  | b :: r => (b.toNat : Int) + 256 * wordM r
theorem wordM_nonneg : ∀ l, 0 ≤ wordM l
  | [] => Int.le_refl _
  | b :: r => by have := wordM_nonneg r; simp only [wordM]; omega
theorem u8_lt (b : UInt8) : b.toNat < 256 := b.toNat_lt
theorem wordM_lt : ∀ l : List UInt8, wordM l < 256 ^ l.length
  | [] => by simp [wordM]
  | b :: r => by
    have := wordM_lt r
    have h := u8_lt b
    simp only [wordM, List.length_cons, Int.pow_succ]
    omega
theorem wordM_snoc : ∀ (l : List UInt8) (x : UInt8), wordM (l ++ [x]) = wordM l + (x.toNat : Int) * 256 ^ l.length
  | [], x => by simp [wordM]
  | b :: r, x => by
    have := wordM_snoc r x
    simp only [List.cons_append, wordM, this, List.length_cons, Int.pow_succ]
    rw [Int.mul_add, ← Int.add_assoc, Int.mul_comm 256 ((x.toNat : Int) * 256 ^ r.length), Int.mul_assoc]
theorem pow_le8 {n : Nat} (h : n ≤ 8) : (256 : Int) ^ n ≤ 18446744073709551616 := by
  have : n = 0 ∨ n = 1 ∨ n = 2 ∨ n = 3 ∨ n = 4 ∨ n = 5 ∨ n = 6 ∨ n = 7 ∨ n = 8 := by omega
  rcases this with rfl | rfl | rfl | rfl | rfl | rfl | rfl | rfl | rfl <;> decide
theorem wordM_u64 {l : List UInt8} (h : l.length ≤ 8) : wordM l < 18446744073709551616 := Int.lt_of_lt_of_le (wordM_lt l) (pow_le8 h)
/-- Bytes laid into words. -/
def layM : List UInt8 → List Int
  | [] => []
  | b :: r => wordM ((b :: r).take 8) :: layM ((b :: r).drop 8)
termination_by l => l.length
decreasing_by simp; omega
theorem layM_nil : layM [] = [] := by unfold layM; rfl
theorem layM_ne {l : List UInt8} (h : l ≠ []) : layM l = wordM (l.take 8) :: layM (l.drop 8) := by
  cases l with
  | nil => exact absurd rfl h
  | cons b r => rw [layM]
theorem layM_len (l : List UInt8) : (layM l).length = (l.length + 7) / 8 := by
  have key : ∀ k, ∀ l : List UInt8, l.length ≤ k → (layM l).length = (l.length + 7) / 8 := by
    intro k
    induction k with
    | zero => intro l h; rw [List.length_eq_zero_iff.1 (Nat.le_zero.1 h), layM_nil]; rfl
    | succ k ih =>
      intro l h
      by_cases hl : l = []
      · rw [hl, layM_nil]; rfl
      · have h0 : 0 < l.length := List.length_pos_iff.2 hl
        rw [layM_ne hl, List.length_cons, ih _ (by rw [List.length_drop]; omega), List.length_drop]
        omega
  exact key _ l (Nat.le_refl _)
theorem layM_append (b : List UInt8) : ∀ (k : Nat) (a : List UInt8), a.length = 8 * k → layM (a ++ b) = layM a ++ layM b
  | 0, a, h => by rw [List.length_eq_zero_iff.1 h, layM_nil]; rfl
  | k + 1, a, h => by
    have ha : a ≠ [] := by intro e; rw [e] at h; simp at h
    have hab : a ++ b ≠ [] := by simp [ha]
    rw [layM_ne hab, layM_ne ha, List.take_append_of_le_length (by omega), List.drop_append_of_le_length (by omega), layM_append b k (a.drop 8) (by rw [List.length_drop]; omega)]
    rfl
theorem layM_short {l : List UInt8} (h : l ≠ []) (h8 : l.length ≤ 8) : layM l = [wordM l] := by
  rw [layM_ne h, List.take_of_length_le h8, List.drop_of_length_le h8, layM_nil]
/-- The step of what lays byte by byte. -/
theorem layM_snoc (pre : List UInt8) (x : UInt8) : ∃ init : List Int, ∃ last : Int, init.length = pre.length / 8 ∧ 0 ≤ last ∧ last < 256 ^ (pre.length % 8) ∧
    layM (pre ++ [x]) = init ++ [last + (x.toNat : Int) * 256 ^ (pre.length % 8)] ∧
    (if pre.length % 8 = 0 then layM pre = init ∧ last = 0 else layM pre = init ++ [last]) := by
  have hd : 8 * (pre.length / 8) ≤ pre.length := by omega
  have ha : (pre.take (8 * (pre.length / 8))).length = 8 * (pre.length / 8) := by rw [List.length_take]; omega
  have hb : (pre.drop (8 * (pre.length / 8))).length = pre.length % 8 := by rw [List.length_drop]; omega
  have e : pre = pre.take (8 * (pre.length / 8)) ++ pre.drop (8 * (pre.length / 8)) := (List.take_append_drop _ _).symm
  refine ⟨layM (pre.take (8 * (pre.length / 8))), wordM (pre.drop (8 * (pre.length / 8))), ?_, wordM_nonneg _, ?_, ?_, ?_⟩
  · rw [layM_len, ha]; omega
  · have := wordM_lt (pre.drop (8 * (pre.length / 8))); rw [hb] at this; exact this
  · have : layM (pre ++ [x]) = layM (pre.take (8 * (pre.length / 8)) ++ (pre.drop (8 * (pre.length / 8)) ++ [x])) := by
      rw [← List.append_assoc, ← e]
    rw [this, layM_append _ _ _ ha, layM_short (l := pre.drop (8 * (pre.length / 8)) ++ [x]) (by simp) (by rw [List.length_append, hb, List.length_singleton]; omega), wordM_snoc, hb]
  · split
    · rename_i h0
      have hn : pre.drop (8 * (pre.length / 8)) = [] := List.length_eq_zero_iff.1 (by omega)
      rw [hn]
      refine ⟨?_, rfl⟩
      have e2 := e
      rw [hn, List.append_nil] at e2
      rw [← e2]
    · rename_i h0
      have hn : pre.drop (8 * (pre.length / 8)) ≠ [] := by intro e3; rw [e3] at hb; exact h0 hb.symm
      have h1 := layM_append (pre.drop (8 * (pre.length / 8))) _ _ ha
      rw [← e, layM_short hn (by omega)] at h1
      exact h1
theorem layM_u64 (l : List UInt8) : ∀ w ∈ layM l, 0 ≤ w ∧ w < 18446744073709551616 := by
  have key : ∀ k, ∀ l : List UInt8, l.length ≤ k → ∀ w ∈ layM l, 0 ≤ w ∧ w < 18446744073709551616 := by
    intro k
    induction k with
    | zero => intro l h; rw [List.length_eq_zero_iff.1 (Nat.le_zero.1 h), layM_nil]; simp
    | succ k ih =>
      intro l h w hw
      by_cases hl : l = []
      · rw [hl, layM_nil] at hw; cases hw
      · have h0 : 0 < l.length := List.length_pos_iff.2 hl
        rw [layM_ne hl] at hw
        rcases List.mem_cons.1 hw with rfl | hw
        · exact ⟨wordM_nonneg _, wordM_u64 (by rw [List.length_take]; omega)⟩
        · exact ih _ (by rw [List.length_drop]; omega) w hw
  exact key _ l (Nat.le_refl _)
/-- So many bytes of a word. -/
def bytN (w : Int) : Nat → List UInt8
  | 0 => []
  | n + 1 => UInt8.ofNat (w % 256).toNat :: bytN (w / 256) n
theorem bytN_len (w : Int) (n : Nat) : (bytN w n).length = n := by
  induction n generalizing w with
  | zero => rfl
  | succ n ih => rw [bytN, List.length_cons, ih]
theorem bytN_snoc (w : Int) (n : Nat) : bytN w (n + 1) = bytN w n ++ [UInt8.ofNat (w / 256 ^ n % 256).toNat] := by
  induction n generalizing w with
  | zero => simp [bytN]
  | succ n ih =>
    rw [bytN, ih (w / 256), bytN, List.cons_append]
    have : w / 256 / 256 ^ n = w / 256 ^ (n + 1) := by
      rw [Int.pow_succ, Int.mul_comm, Int.ediv_ediv_of_nonneg (by decide)]
    rw [this]
def bytM : List Int → List UInt8
  | [] => []
  | w :: r => bytN w 8 ++ bytM r
theorem bytM_len (l : List Int) : (bytM l).length = 8 * l.length := by
  induction l with
  | nil => rfl
  | cons w r ih => rw [bytM, List.length_append, bytN_len, ih, List.length_cons]; omega
theorem bytM_append (a b : List Int) : bytM (a ++ b) = bytM a ++ bytM b := by
  induction a with
  | nil => rfl
  | cons w r ih => rw [List.cons_append, bytM, ih, bytM, List.append_assoc]
theorem bytN_wordM : ∀ (n : Nat) (l : List UInt8), l.length ≤ n → (bytN (wordM l) n).take l.length = l
  | n, [], _ => by simp
  | 0, b :: r, h => by simp at h
  | n + 1, b :: r, h => by
    simp only [List.length_cons] at h
    have ih := bytN_wordM n r (by omega)
    have h1 : ((b.toNat : Int) + 256 * wordM r) % 256 = b.toNat := by have := u8_lt b; omega
    have h2 : ((b.toNat : Int) + 256 * wordM r) / 256 = wordM r := by have := u8_lt b; omega
    rw [wordM, bytN, List.length_cons, List.take_succ_cons, h1, h2, ih]
    simp
theorem bytM_layM (l : List UInt8) (t : List Int) : (bytM (layM l ++ t)).take l.length = l := by
  have key : ∀ k, ∀ l : List UInt8, l.length ≤ k → (bytM (layM l ++ t)).take l.length = l := by
    intro k
    induction k with
    | zero => intro l h; rw [List.length_eq_zero_iff.1 (Nat.le_zero.1 h)]; rfl
    | succ k ih =>
      intro l h
      by_cases hl : l = []
      · rw [hl]; rfl
      · have h0 : 0 < l.length := List.length_pos_iff.2 hl
        rw [layM_ne hl, List.cons_append, bytM]
        by_cases h8 : l.length ≤ 8
        · rw [List.take_of_length_le h8, List.take_append_of_le_length (by rw [bytN_len]; exact h8)]
          exact bytN_wordM 8 l h8
        · have h1 := ih (l.drop 8) (by rw [List.length_drop]; omega)
          have e8 : (l.take 8).length = 8 := by rw [List.length_take]; omega
          have h2 := bytN_wordM 8 (l.take 8) (by omega)
          rw [e8, List.take_of_length_le (by rw [bytN_len]; omega)] at h2
          rw [h2, List.take_append, e8, List.take_of_length_le (by omega)]
          rw [List.length_drop] at h1
          rw [h1, List.take_append_drop]
  exact key _ l (Nat.le_refl _)
/-- Is a text . or ..? -/
def dotsM (s : ByteArray) : Bool := s.toList == [46] || s.toList == [46, 46]
def plainM (l : List UInt8) : Bool := l.all fun b => b != 0 && b != 47
/-- A name's error. -/
def nameM (s : ByteArray) : Int := if (s.toList == []) = true ∨ dotsM s = true ∨ plainM s.data.toList = false then 140 else if 120 < s.size then 141 else 0
theorem idxB_none (c : UInt8) : ∀ l : List UInt8, (idxB c l = none ↔ l.all (fun b => b != c) = true)
  | [] => by simp [idxB]
  | b :: r => by
    have ih := idxB_none c r
    by_cases h : b = c
    · simp [idxB, h]
    · have : (b == c) = false := by simp [h]
      simp only [idxB, this, Bool.false_eq_true, if_false, Option.map_eq_none_iff, ih, List.all_cons]
      simp [h]
theorem plainM_idx (l : List UInt8) : plainM l = false ↔ (idxB 0 l).isSome = true ∨ (idxB 47 l).isSome = true := by
  have h0 := idxB_none 0 l
  have h47 := idxB_none 47 l
  have e : plainM l = (l.all (fun b => b != 0) && l.all (fun b => b != 47)) := by
    unfold plainM
    clear h0 h47
    induction l with
    | nil => rfl
    | cons b r ih => simp only [List.all_cons, ih]; cases (b != 0) <;> cases (b != 47) <;> simp
  rw [e]
  cases ha : idxB 0 l with
  | none =>
    have := h0.1 ha
    cases hb : idxB 47 l with
    | none => have h2 := h47.1 hb; simp [this, h2]
    | some j =>
      have h2 : ¬ l.all (fun b => b != 47) = true := fun h => by rw [h47.2 h] at hb; cases hb
      rw [Bool.not_eq_true] at h2
      simp [h2]
  | some j =>
    have h2 : ¬ l.all (fun b => b != 0) = true := fun h => by rw [h0.2 h] at ha; cases ha
    rw [Bool.not_eq_true] at h2
    simp [h2]
/-- May a record be? -/
def recOk (n : Int) (s : ByteArray) : Prop := 1 ≤ n ∧ n ≤ 256 ∧ nameM s = 0
instance (n : Int) (s : ByteArray) : Decidable (recOk n s) := inferInstanceAs (Decidable (_ ∧ _ ∧ _))
theorem nameM_size {s : ByteArray} (h : nameM s = 0) : s.size ≤ 120 := by
  unfold nameM at h
  split at h
  · simp at h
  · split at h
    · simp at h
    · omega
/-- A record's words: all sixteen. -/
def wordsL (n : Int) (s : ByteArray) : List Int := (n + 65536 * (s.size : Int)) :: layM s.data.toList
def wordsM (n : Int) (s : ByteArray) : List Int := wordsL n s ++ List.replicate (16 - (wordsL n s).length) 0
theorem size_data (s : ByteArray) : s.data.toList.length = s.size := Array.length_toList
theorem wordsL_len {n : Int} {s : ByteArray} : (wordsL n s).length = 1 + (s.size + 7) / 8 := by
  rw [wordsL, List.length_cons, layM_len, size_data]; omega
theorem wordsM_len {n : Int} {s : ByteArray} (h : s.size ≤ 120) : (wordsM n s).length = 16 := by
  rw [wordsM, List.length_append, List.length_replicate, wordsL_len]; omega
theorem wordsM_cons (n : Int) (s : ByteArray) : wordsM n s = (n + 65536 * (s.size : Int)) :: (layM s.data.toList ++ List.replicate (16 - (wordsL n s).length) 0) := by
  rw [wordsM, wordsL]; rfl
theorem wordsM_u64 {n : Int} {s : ByteArray} (h : recOk n s) : ∀ w ∈ wordsM n s, 0 ≤ w ∧ w < 18446744073709551616 := by
  intro w hw
  have := nameM_size h.2.2
  obtain ⟨h1, h2, _⟩ := h
  rw [wordsM_cons] at hw
  rcases List.mem_cons.1 hw with rfl | hw
  · omega
  · rcases List.mem_append.1 hw with hw | hw
    · exact layM_u64 _ w hw
    · obtain rfl := (List.mem_replicate.1 hw).2; omega
/-- The text of a record of words. -/
def textM (w : List Int) : ByteArray := ⟨((bytM (w.drop 1)).take (w.headD 0 / 65536).toNat).toArray⟩
def headM (w : List Int) : Int := w.headD 0 % 65536
def isM (w : List Int) : Prop := w.length = 16 ∧ w.headD 0 / 65536 ≤ 120 ∧ recOk (headM w) (textM w) ∧ wordsM (headM w) (textM w) = w
instance (w : List Int) : Decidable (isM w) := inferInstanceAs (Decidable (_ ∧ _ ∧ _ ∧ _))
theorem textM_words {n : Int} {s : ByteArray} (h : recOk n s) : headM (wordsM n s) = n ∧ textM (wordsM n s) = s := by
  have hs := nameM_size h.2.2
  obtain ⟨h1, h2, _⟩ := h
  rw [wordsM_cons]
  refine ⟨by simp only [headM, List.headD_cons]; omega, ?_⟩
  simp only [textM, List.headD_cons, List.drop_succ_cons, List.drop_zero]
  have : ((n + 65536 * (s.size : Int)) / 65536).toNat = s.data.toList.length := by rw [size_data]; omega
  rw [this, bytM_layM]
theorem isM_words {n : Int} {s : ByteArray} (h : recOk n s) : isM (wordsM n s) := by
  obtain ⟨e1, e2⟩ := textM_words h
  have hs := nameM_size h.2.2
  refine ⟨wordsM_len hs, ?_, by rw [e1, e2]; exact h, by rw [e1, e2]⟩
  obtain ⟨h1, h2, _⟩ := h
  rw [wordsM_cons]
  simp only [List.headD_cons]
  omega
theorem textM_size {w : List Int} (h16 : w.length = 16) (h : w.headD 0 / 65536 ≤ 120) (h0 : 0 ≤ w.headD 0) : (textM w).size = (w.headD 0 / 65536).toNat := by
  simp only [textM, ByteArray.size, List.size_toArray, List.length_take, bytM_len, List.length_drop, h16]
  omega
end Go.Rec
