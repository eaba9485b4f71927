/- THE PLAIN MODEL OF A WALKER. No condition. -/
import Derived.Test.YtmogflndepihnaaDoorNM
set_option linter.unusedSimpArgs false
set_option linter.unusedVariables false
set_option linter.unusedSectionVars false
namespace Go.Wlk
open Go Go.Am Go.Rec Go.Nam
/-- How a way ends. -/
structure Wd where
  errno : Int
  dir : Int
  name : List UInt8
  inode : Int
  kind : Int
/-- What a name is. -/
structure Fnd where
  inode : Int
  kind : Int
  target : List UInt8
structure Wk where
  at_ : Int
  parts : List (List UInt8)
  links : Int
  follow : Bool
  fin : Option Wd
def Wd.cells (x : Wd) : List AV := [.int .i64 x.errno, .int .i64 x.dir, .str (bs x.name), .int .i64 x.inode, .int .i64 x.kind]
def Fnd.cells (x : Fnd) : List AV := [.int .i64 x.inode, .int .i64 x.kind, .str (bs x.target)]
def zeroW : Wd := ⟨0, 0, [], 0, 0⟩
def Wk.endA (w : Wk) : Wd := w.fin.getD zeroW
def Wk.cells (w : Wk) (pv : AV) : List AV := w.endA.cells ++ [.bool w.fin.isSome, .int .i64 w.at_, pv, .int .i64 w.links, .bool w.follow, .bool true]
def endM (w : Wk) (x : Wd) : Wk := { w with parts := [], fin := some x }
def dot (p : List UInt8) : Bool := p == [46]
def onM (w : Wk) : Wk := match w.parts.dropWhile dot with
  | [] => endM w ⟨0, 0, [], w.at_, 2⟩
  | l => { w with parts := l }
def slashed (t : List UInt8) : List UInt8 := if t.head? = some 47 then t else 47 :: t
def linkM (w : Wk) (t : List UInt8) : Wk :=
  if 8 < w.links + 1 then endM { w with links := w.links + 1 } ⟨272, 0, [], 0, 0⟩
  else if partsE (slashed t) = 0 then onM { w with links := w.links + 1, at_ := (if t.head? = some 47 then 1 else w.at_), parts := cutP (slashed t) ++ w.parts }
  else endM { w with links := w.links + 1, at_ := (if t.head? = some 47 then 1 else w.at_) } ⟨partsE (slashed t), 0, [], 0, 0⟩
def giveM (w : Wk) (f : Fnd) : Wk := match w.parts with
  | [] => w
  | p :: r =>
    if p = [46, 46] then onM { w with parts := r, at_ := f.inode }
    else if r = [] then if f.kind = 3 ∧ w.follow = true then linkM { w with parts := r } f.target else endM w ⟨0, w.at_, p, f.inode, f.kind⟩
    else if f.kind = 2 then onM { w with parts := r, at_ := f.inode }
    else if f.kind = 3 then linkM { w with parts := r } f.target
    else endM w ⟨271, 0, [], 0, 0⟩
def missM (w : Wk) : Wk := match w.parts with
  | [p] => endM w ⟨270, w.at_, p, 0, 0⟩
  | _ => endM w ⟨270, 0, [], 0, 0⟩
def newM (path : List UInt8) (follow : Bool) : Wk := onM ⟨1, cutP path, 0, follow, none⟩
def Keep (a : Nat) (H H' : Heap) : Prop := H.length ≤ H'.length ∧ ∀ (i : Nat) (o : AObj), i ≠ a → H[i]? = some o → H'[i]? = some o
theorem Keep.refl (a : Nat) (H : Heap) : Keep a H H := ⟨Nat.le_refl _, fun _ _ _ h => h⟩
theorem Keep.trans {a : Nat} {H H' H'' : Heap} (h : Keep a H H') (k : Keep a H' H'') : Keep a H H'' := ⟨Nat.le_trans h.1 k.1, fun i o hi hh => k.2 i o hi (h.2 i o hi hh)⟩
theorem Keep.app (a : Nat) (H L : Heap) : Keep a H (H ++ L) := ⟨by simp, fun i o _ h => by rw [List.getElem?_append_left (List.getElem?_eq_some_iff.1 h).1]; exact h⟩
theorem Keep.set (a : Nat) (H : Heap) (o : AObj) : Keep a H (H.set a o) := ⟨by simp, fun i q hi h => by rw [List.getElem?_set_ne (fun e => hi e.symm)]; exact h⟩
theorem sumP_half (ps : List (List UInt8)) (h : ∀ p ∈ ps, p ≠ []) : 2 * ps.length ≤ sumP ps := by
  induction ps with
  | nil => simp
  | cons p ps ih =>
    have h1 := ih (fun q hq => h q (List.mem_cons_of_mem _ hq))
    have h2 : p.length ≠ 0 := fun e => h p (List.mem_cons_self ..) (List.eq_nil_of_length_eq_zero e)
    simp only [sumP, List.map_cons, List.sum_cons, List.length_cons] at h1 ⊢
    omega
theorem cut_half {l : List UInt8} (h : l.head? = some 47) : 2 * (cutP l).length ≤ l.length := by
  by_cases hc : cutP l = []
  · rw [hc]; simp
  · have h1 := joinM_len h
    unfold joinM at h1
    rw [if_neg hc, joinS_len] at h1
    have := sumP_half (cutP l) (fun p hp => (cutP_mem hp).1)
    omega
theorem slashed_head (t : List UInt8) : (slashed t).head? = some 47 := by
  unfold slashed
  split
  · assumption
  · rfl
theorem slashed_len (t : List UInt8) : (slashed t).length ≤ t.length + 1 := by
  unfold slashed
  split
  · omega
  · simp
theorem drop_len (p : List UInt8 → Bool) : ∀ l : List (List UInt8), (l.dropWhile p).length ≤ l.length
  | [] => Nat.le_refl _
  | x :: r => by
    rw [List.dropWhile_cons]
    have := drop_len p r
    split
    · rw [List.length_cons]; omega
    · exact Nat.le_refl _
/-- It asks still. -/
def Asking (w : Wk) : Prop := w.fin = none ∧ w.parts ≠ [] ∧ 0 ≤ w.links ∧ w.links ≤ 8
def mu (w : Wk) : Nat := w.parts.length + 56 * (8 - w.links.toNat)
theorem onM_step (w : Wk) (hf : w.fin = none) (h0 : 0 ≤ w.links) (h8 : w.links ≤ 8) : (onM w).fin.isSome = true ∨ (Asking (onM w) ∧ mu (onM w) ≤ mu w) := by
  unfold onM
  have hl := drop_len dot w.parts
  split
  · exact .inl rfl
  · rename_i l hne
    refine .inr ⟨⟨hf, fun e => hne e, h0, h8⟩, ?_⟩
    simp only [mu]
    omega
theorem linkM_step (w : Wk) (hf : w.fin = none) (h0 : 0 ≤ w.links) (h8 : w.links ≤ 8) (t : List UInt8) (ht : t.length ≤ 112) : (linkM w t).fin.isSome = true ∨ (Asking (linkM w t) ∧ mu (linkM w t) ≤ mu w) := by
  unfold linkM
  split
  · exact .inl rfl
  rename_i h9
  split
  · have hc := cut_half (slashed_head t)
    have hs := slashed_len t
    rcases onM_step { w with links := w.links + 1, at_ := (if t.head? = some 47 then 1 else w.at_), parts := cutP (slashed t) ++ w.parts } hf (by dsimp only; omega) (by dsimp only; omega) with h | ⟨h1, h2⟩
    · exact .inl h
    · refine .inr ⟨h1, Nat.le_trans h2 ?_⟩
      simp only [mu, List.length_append]
      omega
  · exact .inl rfl
theorem giveM_step (w : Wk) (h : Asking w) (f : Fnd) (ht : f.target.length ≤ 112) : (giveM w f).fin.isSome = true ∨ (Asking (giveM w f) ∧ mu (giveM w f) + 1 ≤ mu w) := by
  obtain ⟨hf, hne, h0, h8⟩ := h
  obtain ⟨at_, l, links, fol, fin⟩ := w
  dsimp only at hf hne h0 h8
  subst hf
  cases l with
  | nil => exact absurd rfl hne
  | cons p r =>
    have mo : ∀ at', mu (⟨at', r, links, fol, none⟩ : Wk) + 1 = mu ⟨at_, p :: r, links, fol, none⟩ := fun _ => by simp only [mu, List.length_cons]; omega
    have on : ∀ at', (onM ⟨at', r, links, fol, none⟩).fin.isSome = true ∨ (Asking (onM ⟨at', r, links, fol, none⟩) ∧ mu (onM ⟨at', r, links, fol, none⟩) + 1 ≤ mu ⟨at_, p :: r, links, fol, none⟩) := fun at' => by
      rcases onM_step ⟨at', r, links, fol, none⟩ rfl h0 h8 with h | ⟨h1, h2⟩
      · exact .inl h
      · exact .inr ⟨h1, by rw [← mo at']; omega⟩
    have li : (linkM ⟨at_, r, links, fol, none⟩ f.target).fin.isSome = true ∨ (Asking (linkM ⟨at_, r, links, fol, none⟩ f.target) ∧ mu (linkM ⟨at_, r, links, fol, none⟩ f.target) + 1 ≤ mu ⟨at_, p :: r, links, fol, none⟩) := by
      rcases linkM_step ⟨at_, r, links, fol, none⟩ rfl h0 h8 f.target ht with h | ⟨h1, h2⟩
      · exact .inl h
      · exact .inr ⟨h1, by rw [← mo at_]; omega⟩
    unfold giveM
    dsimp only
    split
    · exact on _
    split
    · split
      · exact li
      · exact .inl rfl
    split
    · exact on _
    split
    · exact li
    · exact .inl rfl
theorem missM_fin (w : Wk) : (missM w).fin.isSome = true := by
  unfold missM
  split <;> rfl
theorem newM_step {path : List UInt8} (hp : partsE path = 0) (fol : Bool) : (newM path fol).fin.isSome = true ∨ (Asking (newM path fol) ∧ mu (newM path fol) ≤ path.length / 2 + 448) := by
  have hc := cut_half (partsE_ok.1 hp).2.1
  rcases onM_step ⟨1, cutP path, 0, fol, none⟩ rfl (Int.le_refl _) (by dsimp only; omega) with h | ⟨h1, h2⟩
  · exact .inl h
  · refine .inr ⟨h1, Nat.le_trans h2 ?_⟩
    have e : mu ⟨1, cutP path, 0, fol, none⟩ = (cutP path).length + 448 := rfl
    rw [e]
    omega
end Go.Wlk
