/- WHAT STORES DO TO A ROW OF PAIRS. No condition but those stated. -/
import Derived.Test.YtailfegmnkldoaaSM
set_option linter.unusedSimpArgs false
set_option linter.unusedVariables false
set_option linter.unusedSectionVars false
namespace Go.Slots
open Go Go.Am
def modP (f : Int × Int → Int × Int) : Nat → List (Int × Int) → List (Int × Int)
  | _, [] => []
  | 0, x :: r => f x :: r
  | j + 1, x :: r => x :: modP f j r
theorem modP_len (f : Int × Int → Int × Int) (j : Nat) (ps : List (Int × Int)) : (modP f j ps).length = ps.length := by
  induction ps generalizing j with
  | nil => cases j <;> rfl
  | cons x r ih => cases j with
    | zero => rfl
    | succ j => simp [modP, ih]
theorem modP_at (f : Int × Int → Int × Int) (A : List (Int × Int)) (x : Int × Int) (B : List (Int × Int)) : modP f A.length (A ++ x :: B) = A ++ f x :: B := by
  induction A with
  | nil => rfl
  | cons y r ih => simp [modP, ih]
def setP (ps : List (Int × Int)) (p : Int × Int) : List (Int × Int) :=
  if p.1 < 0 then ps else if p.1 % 2 = 0 then modP (fun x => (p.2, x.2)) (p.1 / 2).toNat ps else modP (fun x => (x.1, p.2)) (p.1 / 2).toNat ps
theorem setP_len (ps : List (Int × Int)) (p : Int × Int) : (setP ps p).length = ps.length := by
  unfold setP
  split
  · rfl
  · split <;> exact modP_len ..
def appP (ps l : List (Int × Int)) : List (Int × Int) := l.foldl setP ps
theorem appP_len (ps l : List (Int × Int)) : (appP ps l).length = ps.length := by
  induction l generalizing ps with
  | nil => rfl
  | cons x r ih => exact (ih _).trans (setP_len ..)
theorem modK_cells (v : Int) (j : Nat) (ps : List (Int × Int)) : (encs pairA ps).set (2 * j) (.int .u64 v) = encs pairA (modP (fun x => (v, x.2)) j ps) := by
  induction ps generalizing j with
  | nil => cases j <;> rfl
  | cons x r ih => cases j with
    | zero => rfl
    | succ j =>
      have e : 2 * (j + 1) = 2 * j + 1 + 1 := by omega
      rw [e]
      simp only [encs_cons, pairA, List.cons_append, List.nil_append, List.set_cons_succ, modP, ih]
theorem modV_cells (v : Int) (j : Nat) (ps : List (Int × Int)) : (encs pairA ps).set (2 * j + 1) (.int .u64 v) = encs pairA (modP (fun x => (x.1, v)) j ps) := by
  induction ps generalizing j with
  | nil => cases j <;> rfl
  | cons x r ih => cases j with
    | zero => rfl
    | succ j =>
      have e : 2 * (j + 1) + 1 = 2 * j + 1 + 1 + 1 := by omega
      rw [e]
      simp only [encs_cons, pairA, List.cons_append, List.nil_append, List.set_cons_succ, modP, ih]
theorem setP_cells (ps : List (Int × Int)) (p : Int × Int) (h : 0 ≤ p.1) : (encs pairA ps).set p.1.toNat (.int .u64 p.2) = encs pairA (setP ps p) := by
  unfold setP
  rw [if_neg (by omega)]
  split
  · have e : p.1.toNat = 2 * (p.1 / 2).toNat := by omega
    rw [e, modK_cells]
  · have e : p.1.toNat = 2 * (p.1 / 2).toNat + 1 := by omega
    rw [e, modV_cells]
theorem setP_out (ps : List (Int × Int)) (p : Int × Int) (h : ¬ (0 ≤ p.1 ∧ p.1 < 2 * (ps.length : Int))) : setP ps p = ps := by
  have key : ∀ (f : Int × Int → Int × Int) (ps : List (Int × Int)) (j : Nat), ps.length ≤ j → modP f j ps = ps := by
    intro f ps
    induction ps with
    | nil => intro j _; cases j <;> rfl
    | cons x r ih => intro j hj; cases j with
      | zero => simp at hj
      | succ j => simp only [modP, ih j (by simp at hj; omega)]
  unfold setP
  split
  · rfl
  · split <;> exact key _ _ _ (by omega)
end Go.Slots
namespace Go.Slots
open Go Go.Am
/-- The states of a change: settled, or with one slot that counts for nothing. -/
theorem setP_key (A : List (Int × Int)) (x : Int × Int) (B : List (Int × Int)) (v : Int) : setP (A ++ x :: B) (2 * (A.length : Int), v) = A ++ (v, x.2) :: B := by
  unfold setP
  rw [if_neg (by simp only; omega), if_pos (by simp only; omega)]
  have e : (2 * (A.length : Int) / 2).toNat = A.length := by omega
  simp only [e, modP_at]
theorem setP_ptr (A : List (Int × Int)) (x : Int × Int) (B : List (Int × Int)) (v : Int) : setP (A ++ x :: B) (2 * (A.length : Int) + 1, v) = A ++ (x.1, v) :: B := by
  unfold setP
  rw [if_neg (by simp only; omega), if_neg (by simp only; omega)]
  have e : ((2 * (A.length : Int) + 1) / 2).toNat = A.length := by omega
  simp only [e, modP_at]
/-- Pointers that are something, and unlike their neighbour ahead. -/
def goodL (prev : Int) : List (Int × Int) → Prop
  | [] => True
  | x :: r => x.2 ≠ 0 ∧ x.2 ≠ prev ∧ goodL x.2 r
theorem rdL_good (prev : Int) (A R : List (Int × Int)) (h : goodL prev A) : rdL prev (A ++ R) = A ++ rdL (lastP prev A) R := by
  induction A generalizing prev with
  | nil => rfl
  | cons x r ih =>
    obtain ⟨h1, h2, h3⟩ := h
    have e : lastP prev (x :: r) = lastP x.2 r := by
      cases r with
      | nil => rfl
      | cons y s => simp [lastP, List.getLast?_cons]
    simp only [List.cons_append, rdL, if_neg h1, if_neg h2, ih _ h3, e]
theorem rdL_zero (prev : Int) (Z : List (Int × Int)) (h : zeroL Z) : rdL prev Z = [] := by
  cases Z with
  | nil => rfl
  | cons x r => simp [rdL, h x (by simp)]
theorem rdL_dup (left : Int) (A B Z : List (Int × Int)) (k : Int) (hl : left ≠ 0) (h : goodL left (A ++ B)) (hz : zeroL Z) : rdL left (A ++ (k, lastP left A) :: (B ++ Z)) = A ++ B := by
  have hs : ∀ (A : List (Int × Int)) (prev : Int), prev ≠ 0 → goodL prev (A ++ B) → goodL prev A ∧ goodL (lastP prev A) B ∧ lastP prev A ≠ 0 := by
    intro A
    induction A with
    | nil => intro prev hp h; exact ⟨trivial, h, hp⟩
    | cons x r ih =>
      intro prev hp h
      obtain ⟨h1, h2, h3⟩ := h
      have e : lastP prev (x :: r) = lastP x.2 r := by
        cases r with
        | nil => rfl
        | cons y s => simp [lastP, List.getLast?_cons]
      obtain ⟨g1, g2, g3⟩ := ih x.2 h1 h3
      rw [e]
      exact ⟨⟨h1, h2, g1⟩, g2, g3⟩
  obtain ⟨g1, g2, g3⟩ := hs A left hl h
  rw [rdL_good _ _ _ g1]
  simp only [rdL, if_neg g3, if_true]
  rw [rdL_good _ _ _ g2, rdL_zero _ _ hz, List.append_nil]
end Go.Slots
namespace Go.Slots
open Go Go.Am
/-- A settled row is its pairs, and slots without a pointer. -/
theorem rd_all (prev : Int) (ps : List (Int × Int)) (h : (rdL prev ps).length = rawL ps) : goodL prev (rdL prev ps) ∧ ps = rdL prev ps ++ ps.drop (rdL prev ps).length := by
  have hle : ∀ (ps : List (Int × Int)) (prev : Int), (rdL prev ps).length ≤ rawL ps := by
    intro ps
    induction ps with
    | nil => intro _; simp [rdL]
    | cons x r ih =>
      intro prev
      have := ih x.2
      simp only [rdL, rawL]
      split
      · simp
      · split
        · omega
        · simp only [List.length_cons]; omega
  induction ps generalizing prev with
  | nil => exact ⟨trivial, rfl⟩
  | cons x r ih =>
    have hr := hle r x.2
    by_cases h1 : x.2 = 0
    · have e : rdL prev (x :: r) = [] := by simp [rdL, h1]
      rw [e]
      exact ⟨trivial, rfl⟩
    · by_cases h2 : x.2 = prev
      · have e : rdL prev (x :: r) = rdL x.2 r := by simp only [rdL, if_neg h1, if_pos h2]
        have e2 : rawL (x :: r) = rawL r + 1 := by simp only [rawL, if_neg h1]
        rw [e, e2] at h
        omega
      · have e : rdL prev (x :: r) = x :: rdL x.2 r := by simp only [rdL, if_neg h1, if_neg h2]
        have e2 : rawL (x :: r) = rawL r + 1 := by simp only [rawL, if_neg h1]
        rw [e, e2, List.length_cons] at h
        obtain ⟨g1, g2⟩ := ih x.2 (by omega)
        rw [e]
        refine ⟨⟨h1, h2, g1⟩, ?_⟩
        simp only [List.length_cons, List.drop_succ_cons, List.cons_append, List.cons.injEq, true_and]
        exact g2
end Go.Slots
