/- THE CONTRACT OF names.joined STANDS. No condition but those stated. -/
import Derived.Test.YtmogflndepihnaaDoorBJ
import Derived.Test.YtmogflndepihnaaDoorAmTop
import Derived.Test.YtmogflndepihnaaDoorChecked
set_option linter.unusedSimpArgs false
set_option linter.unusedVariables false
set_option linter.unusedSectionVars false
namespace Go.Proofs.YtmogflndepihnaaDoor
open Go Go.Am Go.RowKit
variable [Thaw]
theorem strsA_get : ∀ {cs : List AV} {ss : List ByteArray}, strsA cs = some ss → ss.length = cs.length ∧ ∀ (i : Nat) (s : ByteArray), ss[i]? = some s → cs[i]? = some (.str s)
  | [], ss, h => by cases h; exact ⟨rfl, fun i s h => by simp at h⟩
  | x :: r, ss, h => by
    unfold strsA at h
    split at h
    · cases ‹_ :: _ = []›
    · rename_i s r' heq
      cases heq
      obtain ⟨ss', h1, rfl⟩ := Option.map_eq_some_iff.1 h
      obtain ⟨k1, k2⟩ := strsA_get h1
      refine ⟨by simp [k1], fun i s' hi => ?_⟩
      cases i with
      | zero => simp at hi; simp [hi]
      | succ i => simpa using k2 i s' (by simpa using hi)
    · cases h
theorem fkWide : Fk none = Fence.wide := rfl
theorem joinOk : ConOk Tryd.prog 63 joinC := by
  intro args r hg V W us hi hr
  refine ⟨callFunc_run Tryd.func63 rfl rfl us, ?_⟩
  rw [fkWide]
  refine callsIn_wide.2 ?_
  unfold joinC at hg
  split at hg
  case h_2 => cases hg
  rename_i sz n cs tk
  split at hg
  case h_2 => cases hg
  rename_i ss hss
  split at hg
  case isFalse => cases hg
  rename_i hcnd
  obtain ⟨hln, hsz, hn, hjl⟩ := hcnd
  cases hg
  obtain ⟨hl, hget⟩ := strsA_get hss
  have hus : ∃ v, us = #[v] ∧ Rep V (.sl sz n cs tk) v := by
    have h1 := hr.1
    match hu : us.toList, hr with
    | [v], hr => exact ⟨v, by rw [← Array.toList_inj, hu], hr.head⟩
    | [], hr => have := hr.1; simp at this
    | _ :: _ :: _, hr => have := hr.1; simp at this
  obtain ⟨v, rfl, hv⟩ := hus
  have post : ∀ (x : ByteArray) (W' : World), Below W.heap.size W W' → PcPost V W (.plain (.str x)) (.returned (.string x)) W' := by
    intro x W' hb
    refine ⟨V.imm, hb, fun p v hp => ?_, fun p v hp => hp, fun p v hp => .inl hp, .str x⟩
    obtain ⟨h1, h2⟩ := hi p v hp
    exact ⟨by rw [hb.cell (World.block_lt_of_cell? W p h1)]; exact h1, h2⟩
  have zero : ∀ (b : Option Addr) (cap : Nat), v = .slice b 0 cap → n = 0 → Calls Tryd.prog 63 #[v] W (PcPost V W (.plain (.str (joinR ss)))) := by
    intro b cap e hn0
    subst e
    have : ss = [] := List.eq_nil_of_length_eq_zero (by omega)
    subst this
    refine (joined_walk0 b cap W).mono ?_
    rintro e W' ⟨rfl, hb⟩
    exact post _ _ hb
  have many : ∀ (b o cap : Nat) (f : Nat → Value), v = .slice (some ⟨b, o, none⟩) n cap → (∀ i, i < cs.length → V.imm ⟨b, o + i, none⟩ = some (f i)) → (∀ (i : Nat) (x : AV), cs[i]? = some x → Rep V x (f i)) → Calls Tryd.prog 63 #[v] W (PcPost V W (.plain (.str (joinR ss)))) := by
    intro b o cap f e h1 h2
    subst e
    refine (joined_walk ⟨b, o, none⟩ n cap ss W hln hn (fun i hin => ?_) hjl).mono ?_
    · have hs : ss[i]? = some (ss.getD i ByteArray.empty) := by rw [List.getD_eq_getElem?_getD, List.getElem?_eq_getElem (by omega)]; rfl
      have hc := hget i _ hs
      rw [List.getElem?_take, if_pos hin] at hc
      have hlt := (List.getElem?_eq_some_iff.1 hc).1
      have hr := h2 i _ hc
      have h3 := (hi _ _ (h1 i hlt)).1
      rw [rep_str hr] at h3
      rw [add_none]
      exact h3
    · rintro e W' ⟨rfl, hb⟩
      exact post _ _ hb
  cases hv with
  | slnil => exact zero _ _ rfl rfl
  | slx => exact zero _ _ rfl rfl
  | sl f a1 a2 a3 a4 a5 => exact many _ _ _ f rfl a4 a5
  | slo f a1 a2 a3 a4 a5 => exact many _ 0 _ f rfl (fun i h => by rw [Nat.zero_add]; exact a4 i h) a5
end Go.Proofs.YtmogflndepihnaaDoor
