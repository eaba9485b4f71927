/- BOTH NODES BEHIND A SPLIT ARE SETTLED, in plain numbers. No condition but those stated. -/
import Derived.Test.YtailfegmnkldoaaN10
import Derived.Test.YtailfegmnkldoaaN9
set_option linter.unusedSimpArgs false
set_option linter.unusedVariables false
set_option linter.unusedSectionVars false
namespace Go.Proofs.Ytailfegmnkldoaa
open Go Go.Am Go.Slots Go.Nod
theorem rising_gt : ∀ (x : Int × Int) (B : List (Int × Int)), risingL (x :: B) → ∀ p ∈ B, x.1 < p.1
  | _, [], _, p, hp => by simp at hp
  | x, y :: r, h, p, hp => by
    rcases List.mem_cons.1 hp with rfl | hp
    · exact h.1
    · have := rising_gt y r h.2 p hp
      have := h.1
      omega
/-- What a settled node's row is. -/
structure SetR (h : Hd) (ps Z : List (Int × Int)) : Prop where
  eq : ps = rdL h.f ps ++ Z
  zero : zeroL Z
  ne : Z ≠ []
  rise : risingL (rdL h.f ps)
  dist : distL [h.f] (rdL h.f ps)
  good : goodL h.f (rdL h.f ps)
  may : mayAll (h.m - nmark) h.l (rdL h.f ps)
theorem setR_of {h : Hd} {ps : List (Int × Int)} (hch : chkE h ps = 0) : ∃ Z, SetR h ps Z := by
  have hk : okL h.f ps ∧ mayAll (h.m - nmark) h.l (rdL h.f ps) := by
    apply Classical.byContradiction
    intro g
    unfold chkE at hch
    rw [if_neg g] at hch
    cases hch
  obtain ⟨Z, k1, k2, k3, k4⟩ := okL_form hk.1
  exact ⟨Z, k1, k2, k4, hk.1.1, hk.1.2.1, k3, hk.2⟩
def u64R (x : Int) : Prop := 0 ≤ x ∧ x < 18446744073709551616
theorem hdN_u {v s l f y : Int} (hv : 0 ≤ v ∧ v ≤ 12) (hs : u64R s) (hl : u64R l) (hf : u64R f) (hy : u64R y) : (hdN v s l f y).u := by
  have e : nmark = 7522529147838689024 := rfl
  exact ⟨by show 0 ≤ nmark + v ∧ nmark + v < _; rw [e]; omega, hs, hl, hf, hy⟩
/-- The new node. -/
theorem new_ok {h : Hd} {ps Z : List (Int × Int)} (hok : h.ok) (hS : SetR h ps Z) (hp : ps.length = 28) {A B : List (Int × Int)} {x : Int × Int} (e : rdL h.f ps = A ++ x :: B) :
    (splH h x).ok ∧ chkE (splH h x) (fillP (splP h x B)) = 0 ∧ rdL (splH h x).f (fillP (splP h x B)) = splP h x B := by
  obtain ⟨k1, k2, k3, k4, k5, k6, k7⟩ := hS
  have hlen : (rdL h.f ps).length < 28 := by
    have h1 := congrArg List.length k1
    rw [List.length_append] at h1
    have := List.length_pos_iff.2 k3
    omega
  rw [e] at hlen k4 k5 k6 k7
  simp only [List.length_append, List.length_cons] at hlen
  have r1 : risingL (x :: B) := by have := risingL_drop (A ++ x :: B) A.length k4; rwa [List.drop_left] at this
  have d1 : distL ([h.f] ++ A.map (·.2)) (x :: B) := by have := distL_drop [h.f] (A ++ x :: B) A.length k5; rwa [List.drop_left, List.take_left] at this
  have nz : ∀ p ∈ A ++ x :: B, p.2 ≠ 0 := goodL_nz h.f _ k6
  have nzx : ∀ p ∈ x :: B, p.2 ≠ 0 := fun p hp => nz p (List.mem_append_right _ hp)
  have mx : ∀ p ∈ x :: B, mayN (h.m - nmark) h.l p := fun p hp => k7 p (List.mem_append_right _ hp)
  have gt := rising_gt x B r1
  have zr : ∀ n, zeroL (List.replicate n ((0 : Int), (0 : Int))) := fun n p hp => by rw [List.eq_of_mem_replicate hp]
  by_cases hm : h.m = nmark
  · have hf : h.f = leafL := (okf hok).1 hm
    have hm0 : h.m - nmark = 0 := by omega
    have hd : distL [leafL] (x :: B) := distL_less _ _ _ (fun k hk => by rw [← hf] at hk; exact List.mem_append_left _ hk) d1
    have hg : goodL leafL (x :: B) := goodL_of leafL _ [leafL] (by simp) nzx hd
    have hne : List.replicate (28 - (x :: B).length) ((0 : Int), (0 : Int)) ≠ [] := by
      intro e'
      have := congrArg List.length e'
      simp at this
      omega
    obtain ⟨o1, o2⟩ := okL_made (f := leafL) r1 hd hg (zr (28 - (x :: B).length)) hne
    rw [splH, if_pos hm, splP, if_pos hm]
    refine ⟨mkok (by show nmark ≤ nmark + 0; omega) (by show nmark + 0 ≤ nmark + 12; omega) hok.2.2.1 (fun _ => rfl) (fun e' => absurd (by show nmark + 0 = nmark; omega) e') (by show (0 : Int) ≤ 2; omega) rfl rfl rfl, ?_, o2⟩
    refine if_pos ⟨o1, ?_⟩
    rw [show rdL (hdN 0 h.s x.1 leafL 0).f (fillP (x :: B)) = x :: B from o2]
    intro p hp
    have h1 := mx p hp
    unfold mayN at h1 ⊢
    rw [if_pos hm0] at h1
    rw [if_pos (by show nmark + 0 - nmark = 0; omega)]
    refine ⟨h1.1, h1.2.1, ?_⟩
    rcases List.mem_cons.1 hp with rfl | hp
    · exact Int.le_refl _
    · have := gt p hp
      show x.1 ≤ p.1
      omega
  · have hm0 : ¬ h.m - nmark = 0 := by omega
    have hd : distL [x.2] B := distL_less _ _ _ (fun k hk => List.mem_append_right _ hk) d1.2
    have hg : goodL x.2 B := goodL_of x.2 _ [x.2] (by simp) (fun p hp => nzx p (List.mem_cons_of_mem _ hp)) hd
    have hrB : risingL B := by have := risingL_drop (x :: B) 1 r1; exact this
    have hne : List.replicate (28 - B.length) ((0 : Int), (0 : Int)) ≠ [] := by
      intro e'
      have := congrArg List.length e'
      simp at this
      omega
    obtain ⟨o1, o2⟩ := okL_made (f := x.2) hrB hd hg (zr (28 - B.length)) hne
    have hbx : blockI x.2 := by
      have := mx x (List.mem_cons_self ..)
      unfold mayN at this
      rw [if_neg hm0] at this
      exact this.1
    rw [splH, if_neg hm, splP, if_neg hm]
    refine ⟨mkok (by have := hok.1; show nmark ≤ nmark + (h.m - nmark); omega) (by have := hok.2.1; show nmark + (h.m - nmark) ≤ nmark + 12; omega) hok.2.2.1 (fun e' => absurd (by have e' : nmark + (h.m - nmark) = nmark := e'; omega) hm) (fun _ => hbx) (by show (0 : Int) ≤ 2; omega) rfl rfl rfl, ?_, o2⟩
    refine if_pos ⟨o1, ?_⟩
    rw [show rdL (hdN (h.m - nmark) h.s x.1 x.2 0).f (fillP B) = B from o2]
    intro p hp
    have h1 := mx p (List.mem_cons_of_mem _ hp)
    unfold mayN at h1 ⊢
    rw [if_neg hm0] at h1
    rw [if_neg (by show ¬ nmark + (h.m - nmark) - nmark = 0; omega)]
    exact ⟨h1.1, gt p hp⟩
/-- The old node behind some stores. -/
theorem old_ok {h : Hd} {ps Z : List (Int × Int)} (hok : h.ok) (hS : SetR h ps Z) {to : Int} (hto : to ≤ 2047) (c : Nat) :
    (withS h to).ok ∧ chkE (withS h to) (cutR (rdL h.f ps) Z c) = 0 ∧ rdL (withS h to).f (cutR (rdL h.f ps) Z c) = (rdL h.f ps).take c := by
  obtain ⟨k1, k2, k3, k4, k5, k6, k7⟩ := hS
  obtain ⟨o1, o2⟩ := okL_cut k4 k5 k6 k2 k3 c
  refine ⟨⟨hok.1, hok.2.1, hto, hok.2.2.2.1, hok.2.2.2.2.1, hok.2.2.2.2.2.1, hok.2.2.2.2.2.2.1, hok.2.2.2.2.2.2.2⟩, ?_, o2⟩
  refine if_pos ⟨o1, ?_⟩
  rw [show rdL (withS h to).f (cutR (rdL h.f ps) Z c) = (rdL h.f ps).take c from o2]
  exact fun p hp => k7 p (List.mem_of_mem_take hp)
/-- Behind so many of the stores. -/
theorem app_stores {h : Hd} {ps Z : List (Int × Int)} (hS : SetR h ps Z) (to : Int) (a : Nat) : ∀ (c k : Nat), a + c ≤ (rdL h.f ps).length → k ≤ c →
    appP (hd4 (withS h to) ++ cutR (rdL h.f ps) Z (a + c)) ((splS a c).take k) = hd4 (withS h to) ++ cutR (rdL h.f ps) Z (a + c - k)
  | c, 0, _, _ => rfl
  | 0, k + 1, _, hk => by omega
  | c + 1, k + 1, hc, hk => by
    rw [splS, List.take_succ_cons]
    show appP (setP _ _) _ = _
    rw [show a + (c + 1) = (a + c) + 1 by omega, set_cut (withS h to) _ Z (a + c) (by omega), app_stores hS to a c k (by omega) (by omega)]
    rw [show a + c + 1 - (k + 1) = a + c - k by omega]
theorem app_all {h : Hd} {ps Z : List (Int × Int)} (hS : SetR h ps Z) (to : Int) (a c k : Nat) (hc : a + c = (rdL h.f ps).length) (hk : k ≤ c) :
    appP (hd4 h ++ ps) (((1, to) :: splS a c).take (k + 1)) = hd4 (withS h to) ++ cutR (rdL h.f ps) Z (a + c - k) := by
  rw [List.take_succ_cons]
  show appP (setP _ _) _ = _
  have e : ps = cutR (rdL h.f ps) Z (a + c) := by rw [hc, cutR_all]; exact hS.eq
  rw [set_sib]
  conv => lhs; rw [show hd4 (withS h to) ++ ps = hd4 (withS h to) ++ cutR (rdL h.f ps) Z (a + c) by rw [← e]]
  exact app_stores hS to a c k (by omega) hk
end Go.Proofs.Ytailfegmnkldoaa
