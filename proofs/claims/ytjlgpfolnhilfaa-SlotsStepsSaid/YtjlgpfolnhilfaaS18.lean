/- WHAT Put, Take AND Swap STORE IS A CHANGE, OR THEY TELL AN ERROR. No condition but those stated. -/
import Derived.Test.YtjlgpfolnhilfaaS17
import Derived.Test.YtjlgpfolnhilfaaS14
set_option linter.unusedSimpArgs false
set_option linter.unusedVariables false
set_option linter.unusedSectionVars false
namespace Go.Slots
open Go Go.Am
/-- A change by so many pairs, or an error and no store. -/
def Res (left : Int) (ps : List (Int × Int)) (m : List (Int × Int) × Int) (d : Int) : Prop :=
  (m.2 ≠ 0 ∧ m.1 = []) ∨ (m.2 = 0 ∧ m.1 ≠ [] ∧ m.1.length ≤ 1000 ∧ ∃ was will, rdL left ps = was ∧ Chg left was will ps m.1 ∧ (will.length : Int) = was.length + d)
theorem split_at {M : List (Int × Int)} {i : Nat} (hi : i ≤ M.length) : ∃ A R, M = A ++ R ∧ A.length = i ∧ M.take i = A ∧ M.drop i = R :=
  ⟨M.take i, M.drop i, (List.take_append_drop i M).symm, by rw [List.length_take]; omega, rfl, rfl⟩
theorem put_res {left : Int} {ps : List (Int × Int)} {p : Int × Int} (hn : ps.length ≤ 28) (h0 : p.2 ≠ 0) (hl : p.2 ≠ left) : Res left ps (putM left ps p) 1 := by
  unfold putM
  by_cases h1 : okL left ps
  case neg =>
    have : pointerE left ps p = 190 := by simp [pointerE, h1]
    rw [if_pos (by rw [this]; decide), this]
    exact .inl ⟨by decide, rfl⟩
  obtain ⟨M, Z, e, er, hM, hz, hne⟩ := okL_inv h1
  by_cases h2 : hasL (rdL left ps) p.2
  case pos =>
    have : pointerE left ps p = 2 := by simp [pointerE, h1, h2]
    rw [if_pos (by rw [this]; decide), this]
    exact .inl ⟨by decide, rfl⟩
  have : pointerE left ps p = 0 := by simp [pointerE, h1, h2]
  rw [if_neg (by rw [this]; decide)]
  by_cases h3 : keyAtI (rdL left ps) (findL' p.1 (rdL left ps)) p.1
  · rw [if_pos h3]; exact .inl ⟨by decide, rfl⟩
  rw [if_neg h3]
  by_cases h4 : (rdL left ps).length + 1 < ps.length
  case neg => rw [if_neg h4]; exact .inl ⟨by decide, rfl⟩
  rw [if_pos h4]
  rw [er] at h2 h3 h4 ⊢
  have hi := findL_le p.1 M
  have hfl := Go.Proofs.Ytjlgpfolnhilfaa.find_lt p.1 M hM.1
  generalize hig : findL' p.1 M = i at hi h3 hfl
  obtain ⟨A, R, eM, hA, hta, hdr⟩ := split_at hi
  have hz2 : ∃ z z2 Z', Z = z :: z2 :: Z' := by
    rw [e, List.length_append] at h4
    match Z, h4 with
    | z :: z2 :: Z', _ => exact ⟨z, z2, Z', rfl⟩
    | [z], h => simp at h
    | [], h => simp at h; omega
  obtain ⟨z, z2, Z', rfl⟩ := hz2
  have htp : ps.take i = A := by rw [e, List.take_append_of_le_length hi, hta]
  have ha : ∀ x ∈ A, x.1 < p.1 := by
    intro x hx
    obtain ⟨j, hj, rfl⟩ := List.mem_iff_getElem.1 hx
    refine (hfl j _ ?_).1 (by omega)
    rw [eM, List.getElem?_append_left hj]
    simp [hj]
  have hr : ∀ x ∈ R, p.1 < x.1 := by
    intro x hx
    obtain ⟨j, hj, rfl⟩ := List.mem_iff_getElem.1 hx
    have hg : M[i + j]? = some R[j] := by
      rw [eM, List.getElem?_append_right (by omega)]
      have : i + j - A.length = j := by omega
      rw [this]
      simp [hj]
    have h5 : ¬ R[j].1 < p.1 := fun h => by
      have := (hfl (i + j) _ hg).2 h
      omega
    have h6 : R[j].1 ≠ p.1 := by
      intro h6
      cases j with
      | zero => exact h3 ⟨R[0], by simpa using hg, h6⟩
      | succ j =>
        have hg0 : M[i]? = some (R[0]'(by omega)) := by
          rw [eM, List.getElem?_append_right (by omega), hA, Nat.sub_self]
          simp
        have h7 : ¬ (R[0]'(by omega)).1 < p.1 := fun h => by
          have := (hfl i _ hg0).2 h
          omega
        have hp := (rising_pw M).1 hM.1
        rw [List.pairwise_iff_getElem] at hp
        have h8 := hp i (i + (j + 1)) (by simpa using (List.getElem?_eq_some_iff.1 hg0).1) (by simpa using (List.getElem?_eq_some_iff.1 hg).1) (by omega)
        simp only [List.getElem_map] at h8
        have g0 := (List.getElem?_eq_some_iff.1 hg0).2
        have g1 := (List.getElem?_eq_some_iff.1 hg).2
        rw [g0, g1, h6] at h8
        exact h7 h8
    omega
  rw [eM] at h2 hM
  have hw := okM_put hM ha hr h2 h0 hl
  have := put_chg (left := left) (A := A) (R := R) (Z := Z') (z := z) (z2 := z2) (p := p) hz hM hw
  rw [hdr, htp, ← hA]
  refine .inr ⟨rfl, by simp, ?_, A ++ R, A ++ p :: R, by rw [er, eM], ?_, by simp; omega⟩
  · have e9 : ps.length = M.length + (Z'.length + 2) := by rw [e]; simp
    have e10 : M.length = A.length + R.length := by rw [eM]; simp
    simp only [List.length_cons, List.length_append, dnF_len, List.length_nil]
    omega
  · rw [e, eM]
    exact this
theorem take_res {left : Int} {ps : List (Int × Int)} {key : Int} (hn : ps.length ≤ 28) : Res left ps (takeM left ps key) (-1) := by
  unfold takeM
  by_cases h1 : okL left ps
  case neg => rw [if_neg h1]; exact .inl ⟨by decide, rfl⟩
  obtain ⟨M, Z, e, er, hM, hz, hne⟩ := okL_inv h1
  rw [if_pos h1, er]
  by_cases h3 : keyAtI M (findL' key M) key
  case neg => rw [if_neg h3]; exact .inl ⟨by decide, rfl⟩
  rw [if_pos h3]
  obtain ⟨x, hx, hk⟩ := h3
  have hi : findL' key M < M.length := (List.getElem?_eq_some_iff.1 hx).1
  generalize hig : findL' key M = i at hi hx
  obtain ⟨A, R, eM, hA, hta, hdr⟩ := split_at (Nat.le_of_lt hi)
  obtain ⟨R', rfl⟩ : ∃ R', R = x :: R' := by
    cases R with
    | nil => rw [eM, List.append_nil] at hi; omega
    | cons y R' =>
      refine ⟨R', ?_⟩
      rw [eM, List.getElem?_append_right (by omega), hA, Nat.sub_self] at hx
      simp at hx
      rw [hx]
  have htp : ps.take i = A := by rw [e, List.take_append_of_le_length (by omega), hta]
  have hl : M.length = A.length + 1 + R'.length := by rw [eM]; simp; omega
  have ep : ps = A ++ x :: (R' ++ Z) := by rw [e, eM]; simp
  rw [eM] at hM
  have := take_chg (left := left) hz hne hM
  rw [htp, hl, ← hA, ep]
  refine .inr ⟨rfl, by simp, ?_, A ++ x :: R', A ++ R', by rw [← ep, er, eM], this, by simp; omega⟩
  rw [shift_at]
  have := shF_len A.length R'.length (R' ++ Z)
  rw [ep] at hn
  simp only [List.length_cons, List.length_append, List.length_nil] at hn ⊢
  omega
theorem swap_res {left : Int} {ps : List (Int × Int)} {p : Int × Int} (h0 : p.2 ≠ 0) (hl : p.2 ≠ left) : Res left ps (swapM left ps p) 0 := by
  unfold swapM
  by_cases h1 : okL left ps
  case neg =>
    have : pointerE left ps p = 190 := by simp [pointerE, h1]
    rw [if_pos (by rw [this]; decide), this]
    exact .inl ⟨by decide, rfl⟩
  obtain ⟨M, Z, e, er, hM, hz, hne⟩ := okL_inv h1
  by_cases h2 : hasL (rdL left ps) p.2
  case pos =>
    have : pointerE left ps p = 2 := by simp [pointerE, h1, h2]
    rw [if_pos (by rw [this]; decide), this]
    exact .inl ⟨by decide, rfl⟩
  have : pointerE left ps p = 0 := by simp [pointerE, h1, h2]
  rw [if_neg (by rw [this]; decide), er]
  rw [er] at h2
  by_cases h3 : keyAtI M (findL' p.1 M) p.1
  case neg => rw [if_neg h3]; exact .inl ⟨by decide, rfl⟩
  rw [if_pos h3]
  obtain ⟨x, hx, hk⟩ := h3
  have hi : findL' p.1 M < M.length := (List.getElem?_eq_some_iff.1 hx).1
  generalize hig : findL' p.1 M = i at hi hx
  obtain ⟨A, R, eM, hA, hta, hdr⟩ := split_at (Nat.le_of_lt hi)
  obtain ⟨R', rfl⟩ : ∃ R', R = x :: R' := by
    cases R with
    | nil => rw [eM, List.append_nil] at hi; omega
    | cons y R' =>
      refine ⟨R', ?_⟩
      rw [eM, List.getElem?_append_right (by omega), hA, Nat.sub_self] at hx
      simp at hx
      rw [hx]
  have ep : ps = A ++ x :: (R' ++ Z) := by rw [e, eM]; simp
  rw [eM] at hM h2
  have hw := okM_swap hM h2 h0 hl
  have := swap_chg (left := left) hz hne hM hw
  rw [← hA]
  refine .inr ⟨rfl, by simp, by simp, A ++ x :: R', A ++ (x.1, p.2) :: R', by rw [er, eM], ?_, by simp⟩
  rw [ep]
  exact this
/-- Behind a change: what is read, what Tidy stores, and that the row is settled. -/
theorem chg_at {left : Int} {was will ps l : List (Int × Int)} (h : Chg left was will ps l) (hl : left ≠ 0) : ∃ n1, n1 ≤ l.length ∧ (l ≠ [] → True) ∧
    (∀ k, k < l.length → St left (if k < n1 then was else will) (appP ps (l.take k))) ∧ ∃ Z, appP ps l = will ++ Z ∧ zeroL Z ∧ Z ≠ [] := by
  obtain ⟨h1, h2, ⟨l1, l2, rfl, w1, w2⟩, h4⟩ := h
  refine ⟨l1.length, by simp, fun _ => trivial, fun k hk => ?_, h4⟩
  by_cases hk1 : k < l1.length
  · rw [if_pos hk1, List.take_append_of_le_length (by omega)]
    exact w1 k hk1
  · rw [if_neg hk1, List.take_append, List.take_of_length_le (by omega), appP_app]
    exact w2 _ (by rw [List.length_append] at hk; omega)
end Go.Slots
namespace Go.Proofs.Ytjlgpfolnhilfaa
open Go Go.Am Go.Slots
theorem tidy_at {left : Int} {M ps : List (Int × Int)} (hr : right left (2 * ps.length)) (hM : okM left M) (h : St left M ps) : ∃ t : List (Int × Int), (∀ H, pcx (cbL tab) 37 [.int .u64 left, row ps [] .ro] H = some (.plain (resT (t, 0)))) ∧ t.length ≤ 1000 ∧ okL left (appP ps t) ∧ rdL left (appP ps t) = M := by
  cases h with
  | set Z hz hne => exact ⟨[], fun H => slotstidy_settled left M Z H hr hM hz hne, by simp, okL_settled hM hz hne, rd_settled hM hz⟩
  | dup A B Z k e hz =>
    subst e
    obtain ⟨g1, M', g2, g3⟩ := tidy_dup (Z := Z) (k := k) hr.1 hM hz
    refine ⟨_, fun H => slotstidy_dup left A B Z k H hr hM hz, ?_, g1, ?_⟩
    · rw [shift_at]
      have := shF_len A.length B.length (B ++ Z)
      have h4 := hr.2.2.2
      simp only [List.length_cons, List.length_append, List.length_nil] at h4 ⊢
      omega
    · rw [g3, ← g2]; exact rdL_dup left A B Z k hr.1 hM.good hz
end Go.Proofs.Ytjlgpfolnhilfaa
