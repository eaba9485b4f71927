/- THE PLAIN MODEL OF EXTENTS AND INODES. No condition. -/
import Derived.Test.YtncmflmjlocgiaaRM
set_option linter.unusedSimpArgs false
set_option linter.unusedVariables false
set_option linter.unusedSectionVars false
namespace Go.Ino
open Go Go.Am Go.Rec
/-- An extent: file, device, how many. -/
abbrev Ext := Int × Int × Int
def extA (x : Ext) : List AV := [.int .i64 x.1, .int .i64 x.2.1, .int .i64 x.2.2]
def i64A (j : Int) : List AV := [.int .i64 j]
instance : Even extA 3 := ⟨fun _ => rfl⟩
instance : Even i64A 1 := ⟨fun _ => rfl⟩
theorem hf_extA (l : List Ext) : hfL (encs extA l) = true := hfL_encs (fun _ => rfl) l
theorem hf_i64A (l : List Int) : hfL (encs i64A l) = true := hfL_encs (fun _ => rfl) l
theorem one_extA (l : List Ext) : allOne (encs extA l) = true := allOne_encs (fun _ => rfl) l
theorem one_i64A (l : List Int) : allOne (encs i64A l) = true := allOne_encs (fun _ => rfl) l
def rightM (x : Ext) : Prop := 0 ≤ x.1 ∧ x.1 < 128 ∧ 1 ≤ x.2.2 ∧ x.2.2 ≤ 128 - x.1 ∧ 1 ≤ x.2.1 ∧ x.2.1 < 2048 ∧ x.2.2 ≤ 2048 - x.2.1
instance (x : Ext) : Decidable (rightM x) := inferInstanceAs (Decidable (_ ∧ _ ∧ _ ∧ _ ∧ _ ∧ _ ∧ _))
/-- So many blocks more. -/
def layN : Nat → Int → Int → List Int → Option (List Int)
  | 0, _, _, t => some t
  | n + 1, f, d, t => if t.getD f.toNat 0 ≠ 0 ∨ d ∈ t then none else layN n (f + 1) (d + 1) (t.set f.toNat d)
def layL : List Ext → List Int → Option (List Int)
  | [], t => some t
  | x :: r, t => if rightM x then (match layN x.2.2.toNat x.1 x.2.1 t with
    | some t' => layL r t'
    | none => none) else none
/-- A list with a block more. -/
def addE (out : List Ext) (i d : Int) : List Ext :=
  match out.getLast? with
  | some l => if l.1 + l.2.2 = i ∧ l.2.1 + l.2.2 = d then out.dropLast ++ [(l.1, l.2.1, l.2.2 + 1)] else out ++ [(i, d, 1)]
  | none => [(i, d, 1)]
def listF : List Int → Int → List Ext → List Ext
  | [], _, out => out
  | d :: r, i, out => listF r (i + 1) (if d = 0 then out else addE out i d)
def listM (t : List Int) : List Ext := listF t 0 []
def t0 : List Int := List.replicate 128 0
def ofM (l : List Ext) : Option (List Int) :=
  if l.length ≤ 10 then (match layL l t0 with
    | some t => if listM t = l then some t else none
    | none => none) else none
/-- A table. -/
structure Tab (t : List Int) : Prop where
  len : t.length = 128
  val : ∀ v ∈ t, 0 ≤ v ∧ v < 2048
theorem Tab.t0 : Tab t0 := ⟨List.length_replicate, fun v hv => by have := (List.mem_replicate.1 hv).2; omega⟩
theorem Tab.set {t : List Int} (h : Tab t) {i : Nat} {d : Int} (h0 : 0 ≤ d) (h1 : d < 2048) : Tab (t.set i d) :=
  ⟨by rw [List.length_set]; exact h.len, fun v hv => by
    rcases List.mem_or_eq_of_mem_set hv with h2 | h2
    · exact h.val v h2
    · omega⟩
theorem layN_tab : ∀ {n : Nat} {f d : Int} {t t' : List Int}, Tab t → 0 ≤ d → d + n ≤ 2048 → layN n f d t = some t' → Tab t'
  | 0, _, _, _, _, h, _, _, e => by cases e; exact h
  | n + 1, f, d, t, t', h, h0, h1, e => by
    rw [layN] at e
    split at e
    · cases e
    · exact layN_tab (h.set h0 (by omega)) (by omega) (by omega) e
theorem layL_tab : ∀ {l : List Ext} {t t' : List Int}, Tab t → layL l t = some t' → Tab t'
  | [], _, _, h, e => by cases e; exact h
  | x :: r, t, t', h, e => by
    rw [layL] at e
    split at e
    · rename_i hr
      split at e
      · rename_i t1 h1
        exact layL_tab (layN_tab h (by have := hr.2.2.2.2.1; omega) (by have := hr.2.2; omega) h1) e
      · cases e
    · cases e
theorem layL_right : ∀ {l : List Ext} {t t' : List Int}, layL l t = some t' → ∀ x ∈ l, rightM x
  | [], _, _, _ => by simp
  | y :: r, t, t', e => by
    rw [layL] at e
    split at e
    · rename_i hr
      split at e
      · intro x hx
        rcases List.mem_cons.1 hx with rfl | hx
        · exact hr
        · exact layL_right e x hx
      · cases e
    · cases e
theorem ofM_spec {l : List Ext} {t : List Int} (h : ofM l = some t) : l.length ≤ 10 ∧ layL l t0 = some t ∧ listM t = l := by
  unfold ofM at h
  split at h
  · rename_i h1
    split at h
    · rename_i t' h2
      split at h
      · rename_i h3; cases h; exact ⟨h1, h2, h3⟩
      · cases h
    · cases h
  · cases h
/-- The word of an extent, and back. -/
def wordE (x : Ext) : Int := x.1 + 65536 * x.2.1 + 1099511627776 * x.2.2
def wordsE (l : List Ext) : List Int := l.map wordE ++ List.replicate (10 - l.length) 0
def extW (w : Int) : Ext := (w % 65536, w / 65536 % 16777216, w / 1099511627776 % 65536)
def readE (ws : List Int) : List Ext := (ws.filter (· ≠ 0)).map extW
theorem wordE_pos {x : Ext} (h : rightM x) : 0 < wordE x ∧ wordE x < 18446744073709551616 := by
  obtain ⟨h1, h2, h3, h4, h5, h6, h7⟩ := h
  unfold wordE
  constructor <;> omega
theorem extW_word {x : Ext} (h : rightM x) : extW (wordE x) = x := by
  obtain ⟨h1, h2, h3, h4, h5, h6, h7⟩ := h
  obtain ⟨a, b, c⟩ := x
  simp only at h1 h2 h3 h4 h5 h6 h7
  unfold extW wordE
  simp only
  refine Prod.ext ?_ (Prod.ext ?_ ?_) <;> simp only <;> omega
theorem filter_zeros : ∀ k : Nat, (List.replicate k (0 : Int)).filter (· ≠ 0) = []
  | 0 => rfl
  | k + 1 => by rw [List.replicate_succ]; simp
theorem readE_words {l : List Ext} (h : ∀ x ∈ l, rightM x) : readE (wordsE l) = l := by
  unfold readE wordsE
  rw [List.filter_append, filter_zeros, List.append_nil]
  induction l with
  | nil => rfl
  | cons x r ih =>
    have hx := h x List.mem_cons_self
    rw [List.map_cons, List.filter_cons_of_pos (by have := (wordE_pos hx).1; simp; omega), List.map_cons, extW_word hx, ih (fun y hy => h y (List.mem_cons_of_mem _ hy))]
theorem wordsE_len {l : List Ext} (h : l.length ≤ 10) : (wordsE l).length = 10 := by
  rw [wordsE, List.length_append, List.length_map, List.length_replicate]; omega
theorem wordsE_u64 {l : List Ext} (h : ∀ x ∈ l, rightM x) : ∀ w ∈ wordsE l, 0 ≤ w ∧ w < 18446744073709551616 := by
  intro w hw
  rcases List.mem_append.1 hw with hw | hw
  · obtain ⟨x, hx, rfl⟩ := List.mem_map.1 hw
    have := wordE_pos (h x hx)
    omega
  · have := (List.mem_replicate.1 hw).2; omega
/-- An inode. -/
structure Ino where
  kind : Int
  links : Int
  size : Int
  map : List Ext
  root : Int
  parent : Int
  target : ByteArray
def zeroI : Ino := ⟨0, 0, 0, [], 0, 0, ⟨#[]⟩⟩
/-- Has a text no byte 0? -/
def flatM (l : List UInt8) : Bool := l.all fun b => b != 0
def tabOkI (t : List Int) (size : Int) : Bool := (List.range 128).all fun i => t.getD i 0 == 0 || decide (512 * (i : Int) < size)
def mapOk (l : List Ext) (size : Int) : Bool := match ofM l with
  | some t => tabOkI t size
  | none => false
/-- May an inode be? -/
def bodyI (n : Ino) : Prop :=
  (n.kind = 0 ∧ n.links = 0 ∧ n.size = 0 ∧ n.map = [] ∧ n.root = 0 ∧ n.parent = 0 ∧ n.target.toList = []) ∨
  (n.kind = 1 ∧ n.root = 0 ∧ n.parent = 0 ∧ n.target.toList = [] ∧ 0 ≤ n.size ∧ n.size ≤ 65536 ∧ mapOk n.map n.size = true) ∨
  (n.kind = 2 ∧ n.size = 0 ∧ n.map = [] ∧ n.target.toList = [] ∧ 1 ≤ n.root ∧ n.root ≤ 2047 ∧ 1 ≤ n.parent ∧ n.parent ≤ 256) ∨
  (n.kind = 3 ∧ n.size = 0 ∧ n.map = [] ∧ n.root = 0 ∧ n.parent = 0 ∧ 1 ≤ n.target.size ∧ n.target.size ≤ 112 ∧ flatM n.target.data.toList = true)
def okI (n : Ino) : Prop := 0 ≤ n.links ∧ n.links ≤ 65535 ∧ bodyI n
instance (n : Ino) : Decidable (bodyI n) := inferInstanceAs (Decidable (_ ∨ _ ∨ _ ∨ _))
instance (n : Ino) : Decidable (okI n) := inferInstanceAs (Decidable (_ ∧ _ ∧ _))
/-- What stands behind the first word. -/
def tailI (n : Ino) : List Int :=
  if n.kind = 1 then n.size :: wordsE n.map
  else if n.kind = 2 then [0, n.root, n.parent]
  else if n.kind = 3 then (n.target.size : Int) :: layM n.target.data.toList
  else []
def wordsI (n : Ino) : List Int := (n.kind + 256 * n.links) :: (tailI n ++ List.replicate (15 - (tailI n).length) 0)
end Go.Ino
