/- THE PLAIN MODEL OF SLOTS: pairs of a row, what is read. No condition. -/
import Derived.Test.YtailfegmnkldoaaAmSet
set_option linter.unusedSimpArgs false
set_option linter.unusedVariables false
set_option linter.unusedSectionVars false
namespace Go.Slots
open Go Go.Am
def putA (p : Int × Int) : List AV := [.int .i64 p.1, .int .u64 p.2]
def pairA (p : Int × Int) : List AV := [.int .u64 p.1, .int .u64 p.2]
def intA (j : Int) : List AV := [.int .i64 j]
def u64A (j : Int) : List AV := [.int .u64 j]
instance : Even putA 2 := ⟨fun _ => rfl⟩
instance : Even pairA 2 := ⟨fun _ => rfl⟩
instance : Even intA 1 := ⟨fun _ => rfl⟩
instance : Even u64A 1 := ⟨fun _ => rfl⟩
theorem hf_putA (l : List (Int × Int)) : hfL (encs putA l) = true := hfL_encs (fun _ => rfl) l
theorem hf_pairA (l : List (Int × Int)) : hfL (encs pairA l) = true := hfL_encs (fun _ => rfl) l
theorem hf_intA (l : List Int) : hfL (encs intA l) = true := hfL_encs (fun _ => rfl) l
def tkOf {α : Type} (l : List α) : Tk := if l.isEmpty then .z else .ro
/-- May a row of so many words be one? -/
def right (left : Int) (n : Nat) : Prop := left ≠ 0 ∧ n % 2 = 0 ∧ 4 ≤ n ∧ n ≤ 56
instance (left : Int) (n : Nat) : Decidable (right left n) := inferInstanceAs (Decidable (_ ∧ _))
def rawL : List (Int × Int) → Nat
  | [] => 0
  | x :: r => if x.2 = 0 then 0 else rawL r + 1
def rdL (prev : Int) : List (Int × Int) → List (Int × Int)
  | [] => []
  | x :: r => if x.2 = 0 then [] else if x.2 = prev then rdL x.2 r else x :: rdL x.2 r
def atL (prev : Int) (j : Nat) : List (Int × Int) → List Int
  | [] => []
  | x :: r => if x.2 = 0 then [] else if x.2 = prev then atL x.2 (j + 1) r else (j : Int) :: atL x.2 (j + 1) r
def lastP (left : Int) (pre : List (Int × Int)) : Int := match pre.getLast? with
  | some x => x.2
  | none => left
theorem lastP_snoc (left : Int) (pre : List (Int × Int)) (x : Int × Int) : lastP left (pre ++ [x]) = x.2 := by simp [lastP]
def hasL (l : List (Int × Int)) (p : Int) : Prop := ∃ x ∈ l, x.2 = p
instance (l : List (Int × Int)) (p : Int) : Decidable (hasL l p) := inferInstanceAs (Decidable (∃ x ∈ l, _))
theorem hasL_cons (x : Int × Int) (l : List (Int × Int)) (p : Int) : hasL (x :: l) p ↔ x.2 = p ∨ hasL l p := by simp [hasL]
/-- How many have lesser keys, of those ahead of the first that has not. -/
def findL' (key : Int) : List (Int × Int) → Nat
  | [] => 0
  | x :: r => if x.1 < key then findL' key r + 1 else 0
def keyAtI (l : List (Int × Int)) (i : Nat) (key : Int) : Prop := ∃ x, l[i]? = some x ∧ x.1 = key
instance (l : List (Int × Int)) (i : Nat) (key : Int) : Decidable (keyAtI l i key) := by
  unfold keyAtI
  cases l[i]? with
  | none => exact isFalse (by simp)
  | some x => exact if h : x.1 = key then isTrue ⟨x, rfl, h⟩ else isFalse (by rintro ⟨y, hy, hk⟩; cases hy; exact h hk)
/-- The cells of a row of pairs. -/
def row (ps : List (Int × Int)) (rest : List AV) (tk : Tk) : AV := .sl 1 (2 * ps.length) (encs pairA ps ++ rest) tk
theorem row_ptr (pre : List (Int × Int)) (x : Int × Int) (r : List (Int × Int)) (rest : List AV) : List.drop (2 * (pre.length : Int) + 1).toNat (encs pairA (pre ++ x :: r) ++ rest) = .int .u64 x.2 :: (encs pairA r ++ rest) := by
  have : (2 * (pre.length : Int) + 1).toNat = pre.length * 2 + 1 := by omega
  rw [this, ← List.drop_drop, drop_pre2, encs_cons]
  rfl
theorem row_key (pre : List (Int × Int)) (x : Int × Int) (r : List (Int × Int)) (rest : List AV) : List.drop (2 * (pre.length : Int)).toNat (encs pairA (pre ++ x :: r) ++ rest) = .int .u64 x.1 :: .int .u64 x.2 :: (encs pairA r ++ rest) := by
  have : (2 * (pre.length : Int)).toNat = pre.length * 2 := by omega
  rw [this, drop_pre2, encs_cons]
  rfl
theorem row_last (pre : List (Int × Int)) (x : Int × Int) (r : List (Int × Int)) (rest : List AV) : List.drop (2 * ((pre.length : Int) + 1) - 1).toNat (encs pairA (pre ++ x :: r) ++ rest) = .int .u64 x.2 :: (encs pairA r ++ rest) := by
  have : 2 * ((pre.length : Int) + 1) - 1 = 2 * (pre.length : Int) + 1 := by omega
  rw [this, row_ptr]
def rowV (n : Nat) (cs : List AV) (tk : Tk) (left : Int) : AV := .agg [.sl 1 n cs tk, .int .u64 left]
def risingL : List (Int × Int) → Prop
  | x :: y :: r => x.1 < y.1 ∧ risingL (y :: r)
  | _ => True
def decRising : (l : List (Int × Int)) → Decidable (risingL l)
  | [] => isTrue trivial
  | [_] => isTrue trivial
  | x :: y :: r => by
    have := decRising (y :: r)
    unfold risingL
    exact inferInstance
instance (l : List (Int × Int)) : Decidable (risingL l) := decRising l
/-- Pointers unlike each other, and those seen. -/
def distL (seen : List Int) : List (Int × Int) → Prop
  | [] => True
  | x :: r => x.2 ∉ seen ∧ distL (seen ++ [x.2]) r
def decDist : (l : List (Int × Int)) → (seen : List Int) → Decidable (distL seen l)
  | [], _ => isTrue trivial
  | x :: r, seen => by
    have := decDist r (seen ++ [x.2])
    unfold distL
    exact inferInstance
instance (seen : List Int) (l : List (Int × Int)) : Decidable (distL seen l) := decDist l seen
def zeroL (l : List (Int × Int)) : Prop := ∀ x ∈ l, x.2 = 0
instance (l : List (Int × Int)) : Decidable (zeroL l) := inferInstanceAs (Decidable (∀ x ∈ l, x.2 = 0))
/-- What is gone over, with the slots. -/
def eachL (prev : Int) (j : Nat) : List (Int × Int) → List (Nat × (Int × Int))
  | [] => []
  | x :: r => if x.2 = 0 then [] else if x.2 = prev then eachL x.2 (j + 1) r else (j, x) :: eachL x.2 (j + 1) r
theorem eachL_snd (prev : Int) (j : Nat) (ps : List (Int × Int)) : (eachL prev j ps).map (·.2) = rdL prev ps := by
  induction ps generalizing prev j with
  | nil => rfl
  | cons x r ih =>
    simp only [eachL, rdL]
    split
    · rfl
    · split
      · exact ih _ _
      · simp [ih]
theorem eachL_fst (prev : Int) (j : Nat) (ps : List (Int × Int)) : (eachL prev j ps).map (fun p => (p.1 : Int)) = atL prev j ps := by
  induction ps generalizing prev j with
  | nil => rfl
  | cons x r ih =>
    simp only [eachL, atL]
    split
    · rfl
    · split
      · exact ih _ _
      · simp [ih]
/-- A consumer is handed one after the other, until it has enough. -/
def runY {σ α : Type} (stp : σ → Nat → α → σ × Bool) : σ → List (Nat × α) → σ
  | s, [] => s
  | s, x :: r => if (stp s x.1 x.2).2 = true then runY stp (stp s x.1 x.2).1 r else (stp s x.1 x.2).1
/-- Is it ahead of the last one's key? -/
def rises (pre : List (Int × Int)) (x : Int × Int) : Prop := match pre.getLast? with
  | some y => y.1 < x.1
  | none => True
def fineF (left : Int) (pre : List (Int × Int)) : List (Int × Int) → Prop
  | [] => True
  | x :: r => rises pre x ∧ ¬ hasL pre x.2 ∧ x.2 ≠ left ∧ fineF left (pre ++ [x]) r
theorem fineF_iff (left : Int) (pre suf : List (Int × Int)) : fineF left pre suf ↔ (match pre.getLast? with | some y => risingL (y :: suf) | none => risingL suf) ∧ distL (left :: pre.map (·.2)) suf := by
  induction suf generalizing pre with
  | nil => cases pre.getLast? <;> simp [fineF, risingL, distL]
  | cons x r ih =>
    have e : (pre ++ [x]).getLast? = some x := by simp
    simp only [fineF, ih, e, distL, List.map_append, List.map_cons, List.map_nil, List.cons_append]
    have hh : hasL pre x.2 ↔ x.2 ∈ pre.map (·.2) := by simp [hasL]
    rw [hh, List.mem_cons, not_or]
    unfold rises
    cases hg : pre.getLast? with
    | none =>
      constructor
      · rintro ⟨_, h1, h2, h3, h4⟩; exact ⟨h3, ⟨h2, h1⟩, h4⟩
      · rintro ⟨h3, ⟨h2, h1⟩, h4⟩; exact ⟨trivial, h1, h2, h3, h4⟩
    | some y =>
      simp only [risingL]
      constructor
      · rintro ⟨h0, h1, h2, h3, h4⟩; exact ⟨⟨h0, h3⟩, ⟨h2, h1⟩, h4⟩
      · rintro ⟨⟨h0, h3⟩, ⟨h2, h1⟩, h4⟩; exact ⟨h0, h1, h2, h3, h4⟩
theorem fineF_top (left : Int) (l : List (Int × Int)) : fineF left [] l ↔ risingL l ∧ distL [left] l := by
  rw [fineF_iff]; rfl
/-- All that a consumer is handed is as it asks. -/
def okRun {σ α : Type} (ok : σ → Nat → α → Prop) (stp : σ → Nat → α → σ × Bool) : σ → List (Nat × α) → Prop
  | _, [] => True
  | s, x :: r => ok s x.1 x.2 ∧ ((stp s x.1 x.2).2 = true → okRun ok stp (stp s x.1 x.2).1 r)
theorem okRun_any {σ α : Type} (stp : σ → Nat → α → σ × Bool) (l : List (Nat × α)) : ∀ s, okRun (fun _ _ _ => True) stp s l := by
  induction l with
  | nil => intro s; trivial
  | cons x r ih => intro s; exact ⟨trivial, fun _ => ih _⟩
/-- Is the row settled? -/
def okL (left : Int) (ps : List (Int × Int)) : Prop :=
  risingL (rdL left ps) ∧ distL [left] (rdL left ps) ∧ (rdL left ps).length = rawL ps ∧ (rdL left ps).length < ps.length ∧ zeroL (ps.drop (rdL left ps).length)
instance (left : Int) (ps : List (Int × Int)) : Decidable (okL left ps) := inferInstanceAs (Decidable (_ ∧ _ ∧ _ ∧ _ ∧ _))
theorem rdL_le (left : Int) (ps : List (Int × Int)) : (rdL left ps).length ≤ ps.length := by
  induction ps generalizing left with
  | nil => simp [rdL]
  | cons x r ih =>
    have := ih x.2
    simp only [rdL, List.length_cons]
    split
    · simp
    · split
      · omega
      · simp only [List.length_cons]; omega
theorem rawL_le (ps : List (Int × Int)) : rawL ps ≤ ps.length := by
  induction ps with
  | nil => simp [rawL]
  | cons x r ih =>
    simp only [rawL, List.length_cons]
    split <;> omega
theorem findL_le (key : Int) (l : List (Int × Int)) : findL' key l ≤ l.length := by
  induction l with
  | nil => simp [findL']
  | cons x r ih => simp only [findL', List.length_cons]; split <;> omega
theorem drop_at {α : Type} {f : α → List AV} {k : Nat} [Even f k] (l : List α) (j : Nat) {x : α} (h : l[j]? = some x) : List.drop (j * k) (encs f l) = f x ++ encs f (l.drop (j + 1)) := by
  rw [encs_drop]
  have hj := (List.getElem?_eq_some_iff.1 h)
  obtain ⟨h1, h2⟩ := hj
  rw [List.drop_eq_getElem_cons h1, h2, encs_cons]
/-- The first error of a pointer that is to come into a row. -/
def pointerE (left : Int) (ps : List (Int × Int)) (p : Int × Int) : Int := if okL left ps then (if hasL (rdL left ps) p.2 then 2 else 0) else 190
/-- The stores, and an error. -/
def swapM (left : Int) (ps : List (Int × Int)) (p : Int × Int) : List (Int × Int) × Int :=
  if pointerE left ps p ≠ 0 then ([], pointerE left ps p)
  else if keyAtI (rdL left ps) (findL' p.1 (rdL left ps)) p.1 then ([(2 * ((findL' p.1 (rdL left ps) : Nat) : Int) + 1, p.2)], 0) else ([], 5)
def resT (x : List (Int × Int) × Int) : AV := .tup [slvR 2 putA x.1, .int .i64 x.2]
theorem hf_resT (x : List (Int × Int) × Int) : (resT x).hf = true := by
  simp [resT, AV.hf, hfL, slvR_hf (f := putA) (fun _ => rfl)]
theorem resT_nil (e : Int) : resT ([], e) = .tup [.sl 0 0 [] .z, .int .i64 e] := rfl
/-- The stores by which so many slots move ahead, the first to the one at j. -/
def shF (j : Nat) : Nat → List (Int × Int) → List (Int × Int)
  | 0, _ => []
  | _ + 1, [] => []
  | c + 1, y :: r => (2 * (j : Int), y.1) :: (2 * (j : Int) + 1, y.2) :: shF (j + 1) c r
def shiftM (ps : List (Int × Int)) (d m : Nat) : List (Int × Int) := shF d (m - 1 - d) (ps.drop (d + 1)) ++ [(2 * (m : Int) - 1, 0)]
theorem shF_len (j c : Nat) (l : List (Int × Int)) : (shF j c l).length ≤ 2 * c := by
  induction c generalizing j l with
  | zero => simp [shF]
  | succ c ih =>
    cases l with
    | nil => simp [shF]
    | cons y r =>
      have := ih (j + 1) r
      simp only [shF, List.length_cons]
      omega
/-- Take's stores, and an error. -/
def takeM (left : Int) (ps : List (Int × Int)) (key : Int) : List (Int × Int) × Int :=
  if okL left ps then
    if keyAtI (rdL left ps) (findL' key (rdL left ps)) key then
      ((2 * ((findL' key (rdL left ps) : Nat) : Int) + 1, lastP left (ps.take (findL' key (rdL left ps)))) :: shiftM ps (findL' key (rdL left ps)) (rdL left ps).length, 0)
    else ([], 5)
  else ([], 190)
/-- The stores that make room from i on, the last slot first. -/
def dnF (i : Nat) : List (Int × Int) → List (Int × Int)
  | [] => []
  | x :: r => dnF (i + 1) r ++ [(2 * (i : Int) + 3, x.2), (2 * (i : Int) + 2, x.1)]
theorem dnF_snoc (i : Nat) (mid : List (Int × Int)) (x : Int × Int) : dnF i (mid ++ [x]) = (2 * ((i + mid.length : Nat) : Int) + 3, x.2) :: (2 * ((i + mid.length : Nat) : Int) + 2, x.1) :: dnF i mid := by
  induction mid generalizing i with
  | nil => simp [dnF]
  | cons y r ih =>
    have e : i + 1 + r.length = i + (r.length + 1) := by omega
    simp only [List.cons_append, dnF, ih, List.length_cons, e]
theorem dnF_len (i : Nat) (l : List (Int × Int)) : (dnF i l).length = 2 * l.length := by
  induction l generalizing i with
  | nil => rfl
  | cons x r ih => simp only [dnF, List.length_append, ih, List.length_cons, List.length_nil]; omega
/-- Put's stores, and an error. -/
def putM (left : Int) (ps : List (Int × Int)) (p : Int × Int) : List (Int × Int) × Int :=
  if pointerE left ps p ≠ 0 then ([], pointerE left ps p)
  else if keyAtI (rdL left ps) (findL' p.1 (rdL left ps)) p.1 then ([], 191)
  else if (rdL left ps).length + 1 < ps.length then
    ((2 * ((rdL left ps).length : Int) + 3, 0) :: (dnF (findL' p.1 (rdL left ps)) ((rdL left ps).drop (findL' p.1 (rdL left ps))) ++
      [(2 * ((findL' p.1 (rdL left ps) : Nat) : Int) + 1, lastP left (ps.take (findL' p.1 (rdL left ps)))), (2 * ((findL' p.1 (rdL left ps) : Nat) : Int), p.1), (2 * ((findL' p.1 (rdL left ps) : Nat) : Int) + 1, p.2)]), 0)
  else ([], 3)
end Go.Slots
