/- THE PLAIN MODEL OF NODES: their words, what they tell. No condition. -/
import Derived.Test.YtailfegmnkldoaaSM
set_option linter.unusedSimpArgs false
set_option linter.unusedVariables false
set_option linter.unusedSectionVars false
namespace Go.Nod
open Go Go.Am Go.Slots
def nmark : Int := 7522529147838689024
def leafL : Int := 9223372036854775808
/-- May a pointer be a block? -/
def blockI (p : Int) : Prop := 1 ≤ p ∧ p ≤ 2047
instance (p : Int) : Decidable (blockI p) := inferInstanceAs (Decidable (_ ∧ _))
/-- The words of a head, ahead of the slots. -/
structure Hd where
  m : Int
  s : Int
  l : Int
  f : Int
  y : Int
  a : Int
  b : Int
  c : Int
def Hd.cells (h : Hd) : List AV := [.int .u64 h.m, .int .u64 h.s, .int .u64 h.l, .int .u64 h.f, .int .u64 h.y, .int .u64 h.a, .int .u64 h.b, .int .u64 h.c]
/-- Are they unsigned? -/
structure Hd.u (h : Hd) : Prop where
  m : 0 ≤ h.m ∧ h.m < 18446744073709551616
  s : 0 ≤ h.s ∧ h.s < 18446744073709551616
  l : 0 ≤ h.l ∧ h.l < 18446744073709551616
  f : 0 ≤ h.f ∧ h.f < 18446744073709551616
  y : 0 ≤ h.y ∧ h.y < 18446744073709551616
def Hd.ok (h : Hd) : Prop := nmark ≤ h.m ∧ h.m ≤ nmark + 12 ∧ h.s ≤ 2047 ∧ (if h.m = nmark then h.f = leafL else blockI h.f) ∧ h.y ≤ 2 ∧ h.a = 0 ∧ h.b = 0 ∧ h.c = 0
instance (h : Hd) : Decidable h.ok := inferInstanceAs (Decidable (_ ∧ _))
/-- A node. -/
structure Nd where
  v : Int
  s : Int
  l : Int
  f : Int
  y : Int
  ps : List (Int × Int)
def Nd.cells (n : Nd) (p : AV) : List AV := [.int .i64 n.v, .int .i64 n.s, .int .u64 n.l, .int .u64 n.f, .int .i64 n.y, p]
def Nd.av (n : Nd) : AV := .agg (n.cells (slvR 2 pairA n.ps))
def nd0 : Nd := ⟨0, 0, 0, 0, 0, []⟩
theorem nd0_av : nd0.av = .agg [.int .i64 0, .int .i64 0, .int .u64 0, .int .u64 0, .int .i64 0, .sl 0 0 [] .z] := rfl
theorem hf_Nd (n : Nd) : n.av.hf = true := by
  simp [Nd.av, Nd.cells, AV.hf, hfL, slvR_hf (f := pairA) (fun _ => rfl)]
def ndOf (h : Hd) (ps : List (Int × Int)) : Nd := ⟨h.m - nmark, h.s, h.l, h.f, h.y, rdL h.f ps⟩
/-- May a pair be in a node? -/
def mayN (v l : Int) (p : Int × Int) : Prop := if v = 0 then 1 ≤ p.2 ∧ p.2 ≤ 1099511627776 ∧ l ≤ p.1 else blockI p.2 ∧ l < p.1
instance (v l : Int) (p : Int × Int) : Decidable (mayN v l p) := by unfold mayN; exact inferInstance
def mayAll (v l : Int) (ps : List (Int × Int)) : Prop := ∀ p ∈ ps, mayN v l p
instance (v l : Int) (ps : List (Int × Int)) : Decidable (mayAll v l ps) := inferInstanceAs (Decidable (∀ p ∈ ps, _))
/-- What Check tells of words of a node. -/
def chkE (h : Hd) (ps : List (Int × Int)) : Int := if okL h.f ps ∧ mayAll (h.m - nmark) h.l (rdL h.f ps) then 0 else 190
theorem Hd.left {h : Hd} (k : h.ok) : h.f ≠ 0 := by
  obtain ⟨_, _, _, h4, _⟩ := k
  split at h4
  · rw [h4]; decide
  · have := h4.1; omega
theorem Hd.row {h : Hd} (k : h.ok) {ps : List (Int × Int)} (hp : ps.length = 28) : right h.f (2 * ps.length) := ⟨Hd.left k, by omega, by omega, by omega⟩
theorem Hd.leaf {h : Hd} (k : h.ok) : h.m - nmark = 0 ↔ h.m = nmark := by omega
/-- All the words. -/
def wordsA (h : Hd) (ps : List (Int × Int)) (rest : List AV) : List AV := h.cells ++ (encs pairA ps ++ rest)
theorem hf_words (h : Hd) (ps : List (Int × Int)) (rest : List AV) (hr : hfL rest = true) : hfL (wordsA h ps rest) = true := by
  rw [wordsA, hfL_append, hfL_append, hf_pairA, hr]; rfl
/-- 64 words are a head's and the slots'. -/
theorem words_split : ∀ (xs : List Int), xs.length = 64 → ∃ (h : Hd) (ps : List (Int × Int)), encs u64A xs = wordsA h ps [] ∧ ps.length = 28 ∧ xs = [h.m, h.s, h.l, h.f, h.y, h.a, h.b, h.c] ++ ps.flatMap fun p => [p.1, p.2]
  | m :: s :: l :: f :: y :: a :: b :: c :: r, h => by
    have pr : ∀ (n : Nat) (r : List Int), r.length = 2 * n → ∃ ps : List (Int × Int), encs u64A r = encs pairA ps ∧ ps.length = n ∧ r = ps.flatMap fun p => [p.1, p.2] := by
      intro n
      induction n with
      | zero => intro r hr; exact ⟨[], by rw [List.length_eq_zero_iff.1 hr]; rfl, rfl, List.length_eq_zero_iff.1 hr⟩
      | succ n ih =>
        intro r hr
        match r, hr with
        | x :: y :: r, hr =>
          simp only [List.length_cons] at hr
          obtain ⟨ps, h1, h2, h3⟩ := ih r (by omega)
          refine ⟨(x, y) :: ps, ?_, by simp [h2], by simp [← h3]⟩
          rw [encs_cons, encs_cons, encs_cons, h1]
          rfl
    simp only [List.length_cons] at h
    obtain ⟨ps, h1, h2, h3⟩ := pr 28 r (by omega)
    refine ⟨⟨m, s, l, f, y, a, b, c⟩, ps, ?_, h2, ?_⟩
    · rw [wordsA, List.append_nil, ← h1]
      rfl
    · rw [← h3]; rfl
end Go.Nod
