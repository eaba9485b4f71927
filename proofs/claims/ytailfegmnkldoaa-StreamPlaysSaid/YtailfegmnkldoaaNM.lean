/- THE PLAIN MODEL OF PATHS: their parts, and paths in short. No condition. -/
import Derived.Test.YtailfegmnkldoaaRM
set_option linter.unusedSimpArgs false
set_option linter.unusedVariables false
set_option linter.unusedSectionVars false
namespace Go.Nam
open Go Go.Am Go.Rec
/-- A text of bytes. -/
def bs (l : List UInt8) : ByteArray := ⟨l.toArray⟩
theorem bs_data (l : List UInt8) : (bs l).data.toList = l := by simp [bs]
theorem bs_size (l : List UInt8) : (bs l).size = l.length := by rw [← size_data, bs_data]
theorem bs_eta (s : ByteArray) : bs s.data.toList = s := by cases s; simp [bs]
theorem bs_inj {a b : List UInt8} : bs a = bs b ↔ a = b := ⟨fun h => by rw [← bs_data a, h, bs_data], fun h => by rw [h]⟩
theorem bs_toList (l : List UInt8) : (bs l).toList = l := by rw [ByteArray.toList_eq, bs_data]
theorem bs_append (a b : List UInt8) : bs a ++ bs b = bs (a ++ b) := by
  apply ByteArray.ext
  rw [ByteArray.data_append]
  simp [bs]
theorem bs_extract (l : List UInt8) (i j : Nat) : (bs l).extract i j = bs ((l.drop i).take (j - i)) := by
  apply ByteArray.ext
  rw [ByteArray.data_extract]
  simp [bs, List.extract_eq_take_drop]
theorem bs_get (l : List UInt8) (i : Nat) : (bs l)[i]? = l[i]? := by
  by_cases h : i < l.length
  · rw [getElem?_pos (bs l) i (by rw [bs_size]; exact h), List.getElem?_eq_getElem h]
    rfl
  · rw [getElem?_neg (bs l) i (by rw [bs_size]; exact h), List.getElem?_eq_none (by omega)]
/-- Cut at slashes. -/
def splS : List UInt8 → List UInt8 → List (List UInt8)
  | cur, [] => [cur]
  | cur, b :: r => if b = 47 then cur :: splS [] r else splS (cur ++ [b]) r
def cutP (l : List UInt8) : List (List UInt8) := (splS [] l).filter (fun x => !x.isEmpty)
def wideP (l : List UInt8) : Bool := (cutP l).any fun x => decide (120 < x.length)
def partsE (l : List UInt8) : Int :=
  if 1000 < l.length then 3 else if l.head? = some 47 ∧ 0 ∉ l then (if wideP l then 141 else 0) else 140
def partsM (l : List UInt8) : List (List UInt8) := if partsE l = 0 then cutP l else []
/-- The path in short. -/
def joinS (ps : List (List UInt8)) : List UInt8 := ps.flatMap (47 :: ·)
def joinM (ps : List (List UInt8)) : List UInt8 := if ps = [] then [47] else joinS ps
theorem splS_run (x : List UInt8) (hx : 47 ∉ x) : ∀ (cur r : List UInt8), splS cur (x ++ r) = splS (cur ++ x) r := by
  induction x with
  | nil => intro cur r; simp
  | cons b x ih =>
    intro cur r
    simp only [List.mem_cons, not_or] at hx
    rw [List.cons_append, splS, if_neg (fun e => hx.1 e.symm), ih hx.2, List.append_assoc]
    rfl
theorem splS_join (ps : List (List UInt8)) (h : ∀ p ∈ ps, 47 ∉ p) : ∀ cur, splS cur (joinS ps) = cur :: ps := by
  induction ps with
  | nil => intro cur; rfl
  | cons p ps ih =>
    intro cur
    have e : joinS (p :: ps) = 47 :: (p ++ joinS ps) := rfl
    rw [e, splS, if_pos rfl, splS_run p (h p List.mem_cons_self), List.nil_append, ih (fun q hq => h q (List.mem_cons_of_mem _ hq))]
theorem splS_mem : ∀ (l cur : List UInt8), 47 ∉ cur → ∀ x ∈ splS cur l, 47 ∉ x
  | [], cur, h, x, hx => by simp only [splS, List.mem_singleton] at hx; subst hx; exact h
  | b :: r, cur, h, x, hx => by
    rw [splS] at hx
    split at hx
    · rcases List.mem_cons.1 hx with rfl | hx
      · exact h
      · exact splS_mem r [] (by simp) x hx
    · rename_i hb
      exact splS_mem r (cur ++ [b]) (by simp only [List.mem_append, List.mem_singleton, not_or]; exact ⟨h, fun e => hb e.symm⟩) x hx
theorem splS_sub : ∀ (l cur : List UInt8), ∀ x ∈ splS cur l, ∀ b ∈ x, b ∈ cur ∨ b ∈ l
  | [], cur, x, hx, b, hb => by simp only [splS, List.mem_singleton] at hx; subst hx; exact .inl hb
  | c :: r, cur, x, hx, b, hb => by
    rw [splS] at hx
    split at hx
    · rcases List.mem_cons.1 hx with rfl | hx
      · exact .inl hb
      · rcases splS_sub r [] x hx b hb with h | h
        · simp at h
        · exact .inr (List.mem_cons_of_mem _ h)
    · rcases splS_sub r (cur ++ [c]) x hx b hb with h | h
      · rcases List.mem_append.1 h with h | h
        · exact .inl h
        · simp only [List.mem_singleton] at h; subst h; exact .inr List.mem_cons_self
      · exact .inr (List.mem_cons_of_mem _ h)
theorem cutP_mem {l x : List UInt8} (h : x ∈ cutP l) : x ≠ [] ∧ 47 ∉ x ∧ ∀ b ∈ x, b ∈ l := by
  obtain ⟨h1, h2⟩ := List.mem_filter.1 h
  refine ⟨by intro e; subst e; simp at h2, splS_mem l [] (by simp) x h1, fun b hb => ?_⟩
  rcases splS_sub l [] x h1 b hb with h | h
  · simp at h
  · exact h
/-- Parts that may be. -/
def Fine (ps : List (List UInt8)) : Prop := ∀ p ∈ ps, p ≠ [] ∧ 47 ∉ p
theorem Fine.cut (l : List UInt8) : Fine (cutP l) := fun _ h => ⟨(cutP_mem h).1, (cutP_mem h).2.1⟩
theorem filter_fine {ps : List (List UInt8)} (h : Fine ps) : ps.filter (fun x => !x.isEmpty) = ps :=
  List.filter_eq_self.2 fun p hp => by have := (h p hp).1; cases p <;> simp_all
theorem cutP_join {ps : List (List UInt8)} (h : Fine ps) : cutP (joinM ps) = ps := by
  unfold joinM cutP
  by_cases hp : ps = []
  · rw [if_pos hp, hp]; rfl
  · rw [if_neg hp, splS_join ps (fun p hq => (h p hq).2), List.filter_cons_of_neg (by simp), filter_fine h]
/-- How long parts are, each with a slash. -/
def sumP (ps : List (List UInt8)) : Nat := (ps.map (·.length + 1)).sum
theorem joinS_len (ps : List (List UInt8)) : (joinS ps).length = sumP ps := by
  induction ps with
  | nil => rfl
  | cons p ps ih =>
    have e : joinS (p :: ps) = 47 :: (p ++ joinS ps) := rfl
    rw [e, List.length_cons, List.length_append, ih]
    simp only [sumP, List.map_cons, List.sum_cons]; omega
theorem sumP_splS : ∀ (l cur : List UInt8), sumP (splS cur l) = cur.length + l.length + 1
  | [], cur => by simp [splS, sumP]
  | b :: r, cur => by
    rw [splS]
    split
    · have := sumP_splS r []
      simp only [sumP, List.map_cons, List.sum_cons] at this ⊢
      rw [this]; simp; omega
    · rw [sumP_splS r (cur ++ [b])]; simp; omega
theorem sumP_filter (ps : List (List UInt8)) (f : List UInt8 → Bool) : sumP (ps.filter f) ≤ sumP ps := by
  induction ps with
  | nil => exact Nat.le_refl _
  | cons p ps ih =>
    rw [List.filter_cons]
    split
    · simp only [sumP, List.map_cons, List.sum_cons] at ih ⊢; omega
    · simp only [sumP, List.map_cons, List.sum_cons] at ih ⊢; omega
theorem joinM_len {l : List UInt8} (h : l.head? = some 47) : (joinM (cutP l)).length ≤ l.length := by
  cases l with
  | nil => cases h
  | cons b r =>
    simp only [List.head?_cons, Option.some.injEq] at h
    subst h
    unfold joinM
    split
    · simp
    · rw [joinS_len]
      have e : cutP (47 :: r) = (splS [] r).filter (fun x => !x.isEmpty) := by
        unfold cutP
        rw [splS, if_pos rfl, List.filter_cons_of_neg (by simp)]
      rw [e]
      have h1 := sumP_filter (splS [] r) (fun x => !x.isEmpty)
      have h2 := sumP_splS r []
      simp only [List.length_nil, List.length_cons] at h2 ⊢
      omega
theorem joinM_head (ps : List (List UInt8)) : (joinM ps).head? = some 47 := by
  unfold joinM
  split
  · rfl
  · cases ps with
    | nil => contradiction
    | cons p ps => rfl
theorem joinM_zero {ps : List (List UInt8)} (h : ∀ p ∈ ps, 0 ∉ p) : 0 ∉ joinM ps := by
  unfold joinM
  split
  · decide
  · intro h0
    obtain ⟨p, hp, hb⟩ := List.mem_flatMap.1 h0
    rcases List.mem_cons.1 hb with hb | hb
    · exact absurd hb (by decide)
    · exact h p hp hb
theorem partsE_ok {l : List UInt8} : partsE l = 0 ↔ l.length ≤ 1000 ∧ l.head? = some 47 ∧ 0 ∉ l ∧ ∀ p ∈ cutP l, p.length ≤ 120 := by
  have hw : wideP l = false ↔ ∀ p ∈ cutP l, p.length ≤ 120 := by
    unfold wideP
    rw [List.any_eq_false]
    simp
  unfold partsE
  by_cases h1 : 1000 < l.length
  · rw [if_pos h1]; simp; omega
  rw [if_neg h1]
  by_cases h2 : l.head? = some 47 ∧ 0 ∉ l
  · rw [if_pos h2]
    cases h3 : wideP l with
    | true =>
      have : ¬ ∀ p ∈ cutP l, p.length ≤ 120 := fun e => by rw [hw.2 e] at h3; cases h3
      rw [if_pos rfl]
      exact ⟨fun e => absurd e (by decide), fun e => absurd e.2.2.2 this⟩
    | false =>
      rw [if_neg (by decide)]
      exact ⟨fun _ => ⟨by omega, h2.1, h2.2, hw.1 h3⟩, fun _ => rfl⟩
  · rw [if_neg h2]
    exact ⟨fun e => absurd e (by decide), fun e => absurd ⟨e.2.1, e.2.2.1⟩ h2⟩
/-- A path in short has its parts. -/
theorem parts_short {ps : List (List UInt8)} (h : Fine ps) (h0 : ∀ p ∈ ps, 0 ∉ p ∧ p.length ≤ 120) (hl : (joinM ps).length ≤ 1000) : partsE (joinM ps) = 0 ∧ partsM (joinM ps) = ps := by
  have e : partsE (joinM ps) = 0 := partsE_ok.2 ⟨hl, joinM_head ps, joinM_zero (fun p hp => (h0 p hp).1), by rw [cutP_join h]; exact fun p hp => (h0 p hp).2⟩
  exact ⟨e, by rw [partsM, if_pos e, cutP_join h]⟩
theorem sumP_take (ps : List (List UInt8)) (n : Nat) : sumP (ps.take n) ≤ sumP ps := by
  induction ps generalizing n with
  | nil => simp
  | cons p ps ih =>
    cases n with
    | zero => simp [sumP]
    | succ n =>
      have := ih n
      simp only [sumP, List.take_succ_cons, List.map_cons, List.sum_cons] at this ⊢; omega
theorem joinM_take {ps : List (List UInt8)} (n : Nat) (hl : (joinM ps).length ≤ 1000) : (joinM (ps.take n)).length ≤ 1000 := by
  unfold joinM at hl ⊢
  split
  · simp
  · rename_i h1
    rw [if_neg (fun e => by rw [e] at h1; simp at h1), joinS_len] at hl
    rw [joinS_len]
    exact Nat.le_trans (sumP_take ps n) hl
/-- What the first slash does. -/
theorem splS_idx (l cur : List UInt8) : splS cur l = match idxB 47 l with
    | none => [cur ++ l]
    | some m => (cur ++ l.take m) :: splS [] (l.drop (m + 1)) := by
  induction l generalizing cur with
  | nil => simp [splS, idxB]
  | cons b r ih =>
    rw [splS, idxB]
    by_cases hb : b = 47
    · rw [if_pos hb, hb]
      simp
    · rw [if_neg hb, if_neg (by simpa using hb), ih]
      cases idxB 47 r with
      | none => simp
      | some m => simp
theorem splS_count (l cur : List UInt8) : (splS cur l).length = l.count 47 + 1 := by
  induction l generalizing cur with
  | nil => rfl
  | cons b r ih =>
    rw [splS]
    by_cases hb : b = 47
    · rw [if_pos hb, hb, List.length_cons, ih, List.count_cons_self]
    · rw [if_neg hb, ih, List.count_cons_of_ne (by simpa using hb)]
end Go.Nam
