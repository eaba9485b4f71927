/- WHAT THE LAWS OF NODES SHARE: what their arguments are. No condition but those stated. -/
import Derived.Test.YtailfegmnkldoaaNW
import Derived.Test.YtailfegmnkldoaaAmOpen
set_option linter.unusedSimpArgs false
set_option linter.unusedVariables false
set_option linter.unusedSectionVars false
namespace Go.Proofs.Ytailfegmnkldoaa
open Go Go.Am Go.Slots Go.Nod
set_option maxHeartbeats 2000000
set_option maxRecDepth 10000
/-- What a slice of words is. -/
theorem ok_words {v : AV} (h : OkS (.slice [.int .u64]) v) : ∃ (xs : List Int) (tk : Tk), v = .sl 1 xs.length (encs u64A xs) tk ∧ (xs.length : Int) ≤ 9223372036854775807 ∧ ∀ x ∈ xs, 0 ≤ x ∧ x ≤ 18446744073709551615 := by
  cases h with
  | slnil _ => exact ⟨[], .z, rfl, by decide, fun x hx => by simp at hx⟩
  | sl _ rows hm hl hr =>
    have : ∀ rows : List (List AV), (∀ r ∈ rows, r.length = 1) → (∀ r ∈ rows, ∀ (i : Nat) (s : Sh) (v : AV), [Sh.int .u64][i]? = some s → r[i]? = some v → OkS s v) →
        ∃ xs : List Int, rows.flatten = encs u64A xs ∧ xs.length = rows.length ∧ ∀ x ∈ xs, 0 ≤ x ∧ x ≤ 18446744073709551615 := by
      intro rows
      induction rows with
      | nil => intro _ _; exact ⟨[], rfl, rfl, fun x hx => by simp at hx⟩
      | cons r rows ih =>
        intro h1 h2
        obtain ⟨xs, k1, k2, k3⟩ := ih (fun r hr => h1 r (List.mem_cons_of_mem _ hr)) (fun r hr => h2 r (List.mem_cons_of_mem _ hr))
        have hr1 := h1 r (List.mem_cons_self ..)
        match r, hr1 with
        | [v], _ =>
          have := h2 [v] (List.mem_cons_self ..) 0 _ v rfl rfl
          cases this with
          | int _ n b1 b2 =>
            have b1 : 0 ≤ n := b1
            have b2 : n ≤ 18446744073709551615 := b2
            refine ⟨n :: xs, by rw [List.flatten_cons, k1, encs_cons]; rfl, by simp [k2], fun x hx => ?_⟩
            rcases List.mem_cons.1 hx with rfl | hx
            · exact ⟨b1, b2⟩
            · exact k3 x hx
    obtain ⟨xs, k1, k2, k3⟩ := this rows hl hr
    exact ⟨xs, .ro, by rw [k1, k2]; rfl, by rw [k2]; omega, k3⟩
theorem ok_int {k : IntKind} {v : AV} (h : OkS (.int k) v) : ∃ n, v = .int k n ∧ k.min ≤ n ∧ n ≤ k.max := by
  cases h with
  | int _ n h1 h2 => exact ⟨n, rfl, h1, h2⟩
theorem hf_u64A (l : List Int) : hfL (encs u64A l) = true := hfL_encs (fun _ => rfl) l
theorem one_u64A (l : List Int) : allOne (encs u64A l) = true := allOne_encs (fun _ => rfl) l
/-- Words that are 64 are a head's and the slots'. -/
theorem words_at (xs : List Int) (hx : ∀ x ∈ xs, 0 ≤ x ∧ x ≤ 18446744073709551615) (hl : xs.length = 64) : ∃ (h : Hd) (ps : List (Int × Int)), encs u64A xs = wordsA h ps [] ∧ ps.length = 28 ∧ h.u ∧ (∀ p ∈ ps, 0 ≤ p.1 ∧ p.1 ≤ 18446744073709551615 ∧ 0 ≤ p.2 ∧ p.2 ≤ 18446744073709551615) := by
  obtain ⟨h, ps, h1, h2, h3⟩ := words_split xs hl
  have hb : ∀ x ∈ [h.m, h.s, h.l, h.f, h.y, h.a, h.b, h.c], 0 ≤ x ∧ x < 18446744073709551616 := fun x hm => by
    have := hx x (by rw [h3]; exact List.mem_append_left _ hm)
    omega
  refine ⟨h, ps, h1, h2, ⟨hb _ (by simp), hb _ (by simp), hb _ (by simp), hb _ (by simp), hb _ (by simp)⟩, fun p hp => ?_⟩
  have q : ∀ x ∈ [p.1, p.2], x ∈ xs := fun x hm => by
    rw [h3]
    exact List.mem_append_right _ (List.mem_flatMap.2 ⟨p, hp, hm⟩)
  have q1 := hx p.1 (q _ (by simp))
  have q2 := hx p.2 (q _ (by simp))
  exact ⟨q1.1, q1.2, q2.1, q2.2⟩
theorem words_rest (h : Hd) (ps : List (Int × Int)) (r : List AV) : wordsA h ps [] ++ r = wordsA h ps r := by
  simp [wordsA]
end Go.Proofs.Ytailfegmnkldoaa
