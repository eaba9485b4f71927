/- WHAT STORES MAKE OF WORDS, AND THE INODE OF ITS WORDS. No condition but those stated. -/
import Derived.Test.YtncmflmjlocgiaaN13
import Derived.Test.YtncmflmjlocgiaaH1
set_option linter.unusedSimpArgs false
set_option linter.unusedVariables false
set_option linter.unusedSectionVars false
namespace Go.Proofs.Ytncmflmjlocgiaa
open Go Go.Am Go.Rec Go.Ino
set_option maxHeartbeats 4000000
set_option maxRecDepth 10000
theorem wordsI_u64 {n : Ino} (h : okI n) : ∀ w ∈ wordsI n, 0 ≤ w ∧ w < 18446744073709551616 := by
  have hk := okI_kind h
  have l0 := h.1
  have l1 := h.2.1
  have tl : ∀ w ∈ tailI n, 0 ≤ w ∧ w < 18446744073709551616 := by
    obtain ⟨_, _, hb | hb | hb | hb⟩ := h
    · have ht : tailI n = [] := by simp [tailI, hb.1]
      rw [ht]; simp
    · have ht : tailI n = n.size :: wordsE n.map := by simp [tailI, hb.1]
      have hr := (isSome_right (mapOk_some hb.2.2.2.2.2.2)).2
      have h1 := hb.2.2.2.2.1
      have h2 := hb.2.2.2.2.2.1
      rw [ht]
      intro w hw
      rcases List.mem_cons.1 hw with rfl | hw
      · omega
      · exact wordsE_u64 hr w hw
    · have ht : tailI n = [0, n.root, n.parent] := by simp [tailI, hb.1]
      obtain ⟨_, _, _, _, b1, b2, b3, b4⟩ := hb
      rw [ht]
      intro w hw
      simp only [List.mem_cons, List.not_mem_nil, or_false] at hw
      omega
    · have ht : tailI n = (n.target.size : Int) :: layM n.target.data.toList := by simp [tailI, hb.1]
      have h1 := hb.2.2.2.2.2.2.1
      rw [ht]
      intro w hw
      rcases List.mem_cons.1 hw with rfl | hw
      · omega
      · exact layM_u64 _ w hw
  intro w hw
  rcases List.mem_cons.1 hw with rfl | hw
  · omega
  rcases List.mem_append.1 hw with hw | hw
  · exact tl w hw
  · have := (List.mem_replicate.1 hw).2; omega
theorem decI_words {n : Ino} (h : okI n) {w0 w1 w2 w3 : Int} {r : List Int} (hw : wordsI n = w0 :: w1 :: w2 :: w3 :: r) : decI w0 w1 w2 w3 r = n := by
  have hk := okI_kind h
  have l0 := h.1
  have l1 := h.2.1
  unfold wordsI at hw
  have e0 : n.kind + 256 * n.links = w0 := by
    cases ht : tailI n <;> rw [ht] at hw <;> simp only [List.nil_append, List.cons_append, List.cons.injEq] at hw <;> exact hw.1
  have hkk : w0 % 256 = n.kind := by omega
  have hll : w0 / 256 % 16777216 = n.links := by omega
  obtain ⟨_, _, hb | hb | hb | hb⟩ := h
  · obtain ⟨k, a, b, c, d, e, f⟩ := hb
    have ft : n.target = ⟨#[]⟩ := ((ba_empty n.target).2 f).symm
    obtain ⟨k', l', s', m', r', p', t'⟩ := n
    simp only at k a b c d e ft hkk hll
    subst k a b c d e ft
    simp [decI, hkk, hll]
  · obtain ⟨k, a, b, c, d, e, f⟩ := hb
    have ft : n.target = ⟨#[]⟩ := ((ba_empty n.target).2 c).symm
    have ht : tailI n = n.size :: wordsE n.map := by simp [tailI, k]
    obtain ⟨hl, hr⟩ := isSome_right (mapOk_some f)
    have hl2 := wordsE_len hl
    rw [ht] at hw
    simp only [List.cons_append, List.cons.injEq] at hw
    have hw10 : w10 w2 w3 r = wordsE n.map := by
      have h3 := congrArg (List.take 10) hw.2.2
      rw [List.take_append_of_le_length (by rw [hl2]; exact Nat.le_refl _), List.take_of_length_le (by rw [hl2]; exact Nat.le_refl _)] at h3
      rw [h3]; rfl
    have hre := readE_words hr
    obtain ⟨k', l', s', m', r', p', t'⟩ := n
    simp only at k a b ft hkk hll hw hw10 hre
    subst k a b ft
    simp [decI, hkk, hll, hw10, hre, hw.2.1]
  · obtain ⟨k, a, b, c, d, e, f, g⟩ := hb
    have ft : n.target = ⟨#[]⟩ := ((ba_empty n.target).2 c).symm
    have ht : tailI n = [0, n.root, n.parent] := by simp [tailI, k]
    rw [ht] at hw
    simp only [List.cons_append, List.cons.injEq] at hw
    obtain ⟨k', l', s', m', r', p', t'⟩ := n
    simp only at k a b ft hkk hll hw
    subst k a b ft
    simp [decI, hkk, hll, hw.2.2.1, hw.2.2.2.1]
  · obtain ⟨k, a, b, c, d, e, f, g⟩ := hb
    have ht : tailI n = (n.target.size : Int) :: layM n.target.data.toList := by simp [tailI, k]
    rw [ht] at hw
    simp only [List.cons_append, List.cons.injEq] at hw
    have ht2 : textI w1 w2 w3 r = n.target := by
      unfold textI
      rw [← hw.2.2, ← hw.2.1, Int.toNat_natCast, ← size_data, bytM_layM]
    obtain ⟨k', l', s', m', r', p', t'⟩ := n
    simp only at k a b c d hkk hll ht2
    subst k a b c d
    simp [decI, hkk, hll, ht2]
theorem wordsI_shape {n : Ino} (h : okI n) : ∃ w0 w1 w2 w3 r, wordsI n = w0 :: w1 :: w2 :: w3 :: r ∧ WOk w0 w1 w2 w3 r [] := by
  have hl := wordsI_len h
  have hu := wordsI_u64 h
  match hw : wordsI n, hl with
  | w0 :: w1 :: w2 :: w3 :: r, hl =>
    rw [hw] at hu
    exact ⟨w0, w1, w2, w3, r, rfl, by simpa using hl, hu w0 (by simp), hu w1 (by simp), hu w2 (by simp), hu w3 (by simp), fun x hx => hu x (by simp [hx]), rfl⟩
theorem ofI_words {n : Ino} (h : okI n) {w0 w1 w2 w3 : Int} {r : List Int} (hw : wordsI n = w0 :: w1 :: w2 :: w3 :: r) : ofI w0 w1 w2 w3 r = (n, 0) := by
  have hd := decI_words h hw
  unfold ofI
  by_cases h0 : w0 = 0
  · rw [if_pos h0]
    have hk := okI_kind h
    have l0 := h.1
    have e0 : n.kind + 256 * n.links = w0 := by
      unfold wordsI at hw
      cases ht : tailI n <;> rw [ht] at hw <;> simp only [List.nil_append, List.cons_append, List.cons.injEq] at hw <;> exact hw.1
    have k0 : n.kind = 0 := by omega
    obtain ⟨_, _, hb | hb | hb | hb⟩ := h
    · obtain ⟨k, a, b, c, d, e, f⟩ := hb
      have ft : n.target = ⟨#[]⟩ := ((ba_empty n.target).2 f).symm
      obtain ⟨k', l', s', m', r', p', t'⟩ := n
      simp only at k a b c d e ft
      subst k a b c d e ft
      rfl
    all_goals omega
  · rw [if_neg h0, if_pos ⟨by rw [hd]; exact h, by rw [hd]; exact hw⟩, hd]
theorem slvP_f (L : List (Int × Int)) : ∃ s t, slvR 2 putA L = .sl s L.length (encs putA L) t ∧ (L ≠ [] → s = 2) := by
  cases L with
  | nil => exact ⟨0, .z, rfl, fun h => absurd rfl h⟩
  | cons x r => exact ⟨2, .ro, rfl, fun _ => rfl⟩
theorem drop_at' {α : Type} {f : α → List AV} {k : Nat} [Even f k] (l : List α) (j : Nat) {x : α} (h : l[j]? = some x) : List.drop (j * k) (encs f l) = f x ++ encs f (l.drop (j + 1)) := by
  rw [encs_drop]
  have hj := (List.getElem?_eq_some_iff.1 h)
  obtain ⟨h1, h2⟩ := hj
  rw [List.drop_eq_getElem_cons h1, h2, encs_cons]
theorem difF_nil (at' : Int) : ∀ (w v : List Int) (j : Nat), w.length = v.length → difF at' j w v = [] → w = v
  | [], [], _, _, _ => rfl
  | [], _ :: _, _, h, _ => by simp at h
  | _ :: _, [], _, h, _ => by simp at h
  | x :: w, y :: v, j, h, e => by
    rw [difF] at e
    split at e
    · rename_i hxy
      rw [hxy, difF_nil at' w v (j + 1) (by simpa using h) e]
    · cases e
theorem difF_cons (at' a x : Int) (rest : List (Int × Int)) : ∀ (w v : List Int) (j : Nat), w.length = v.length → difF at' j w v = (a, x) :: rest →
    ∃ (i : Nat) (y : Int), a = at' + ((j + i : Nat) : Int) ∧ w[i]? = some x ∧ v[i]? = some y ∧ y ≠ x ∧ w.take i = v.take i ∧ rest = difF at' (j + i + 1) (w.drop (i + 1)) (v.drop (i + 1))
  | [], [], _, _, e => by simp [difF] at e
  | [], _ :: _, _, h, _ => by simp at h
  | _ :: _, [], _, h, _ => by simp at h
  | x' :: w, y' :: v, j, h, e => by
    rw [difF] at e
    split at e
    · rename_i hxy
      obtain ⟨i, y, h1, h2, h3, h4, h5, h6⟩ := difF_cons at' a x rest w v (j + 1) (by simpa using h) e
      have e1 : j + 1 + i = j + (i + 1) := by omega
      rw [e1] at h1 h6
      refine ⟨i + 1, y, h1, by simpa using h2, by simpa using h3, h4, ?_, by simpa using h6⟩
      rw [List.take_succ_cons, List.take_succ_cons, h5, hxy]
    · rename_i hxy
      obtain ⟨e1, e2⟩ := List.cons.inj e
      obtain ⟨rfl, rfl⟩ := Prod.mk.inj e1
      exact ⟨0, y', by simp, by simp, by simp, hxy, by simp, by simp [e2]⟩
/-- The words, of which so many are stored. -/
def mixI (W v : List Int) (j : Nat) : List Int := W.take j ++ v.drop j
theorem mix_len {W v : List Int} (h : W.length = v.length) {j : Nat} (hj : j ≤ W.length) : (mixI W v j).length = W.length := by
  rw [mixI, List.length_append, List.length_take, List.length_drop]; omega
theorem mix_step {W v : List Int} {j i : Nat} {x y : Int} (h : W.length = v.length) (h2 : (W.drop j)[i]? = some x) (h3 : (v.drop j)[i]? = some y) (h5 : (W.drop j).take i = (v.drop j).take i) :
    (mixI W v j)[j + i]? = some y ∧ (mixI W v j).set (j + i) x = mixI W v (j + i + 1) ∧ j + i < W.length := by
  rw [List.getElem?_drop] at h2 h3
  obtain ⟨l2, g2⟩ := List.getElem?_eq_some_iff.1 h2
  obtain ⟨l3, g3⟩ := List.getElem?_eq_some_iff.1 h3
  have lt : (W.take j).length = j := by rw [List.length_take]; omega
  refine ⟨?_, ?_, l2⟩
  · rw [mixI, List.getElem?_append_right (by omega), lt, List.getElem?_drop]
    have : j + (j + i - j) = j + i := by omega
    rw [this]; exact h3
  · rw [mixI, List.set_append_right _ _ (by omega), lt]
    have e1 : j + i - j = i := by omega
    have e2 : v.drop j = (v.drop j).take i ++ y :: v.drop (j + i + 1) := by
      have : (v.drop j).drop i = y :: v.drop (j + i + 1) := by
        rw [List.drop_drop, List.drop_eq_getElem_cons l3, g3]
      rw [← this, List.take_append_drop]
    have l4 : ((v.drop j).take i).length = i := by rw [List.length_take, List.length_drop]; omega
    have e3 : W.take (j + i + 1) = W.take j ++ ((W.drop j).take i ++ [x]) := by
      have a := List.take_add (l := W) (i := j) (j := i + 1)
      rw [← Nat.add_assoc] at a
      rw [a]
      congr 1
      rw [List.take_add_one, List.getElem?_drop, h2]
      rfl
    rw [e1, e2, List.set_append_right _ _ (by omega), l4, Nat.sub_self, List.set_cons_zero, mixI, e3, h5]
    simp
end Go.Proofs.Ytncmflmjlocgiaa
