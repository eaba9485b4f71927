/- THE PLAIN MODEL OF A WALKER. No condition. -/
import Derived.Test.YtmogflndepihnaaDoorNM
set_option linter.unusedSimpArgs false
set_option linter.unusedVariables false
set_option linter.unusedSectionVars false
namespace Go.Wlk
open Go Go.Am Go.Rec Go.Nam
/-- How a way ends. -/
structure Wd where
  errno : Int
  dir : Int
  name : List UInt8
  inode : Int
  kind : Int
/-- What a name is. -/
structure Fd where
  inode : Int
  kind : Int
  target : List UInt8
structure Wk where
  at_ : Int
  parts : List (List UInt8)
  links : Int
  follow : Bool
  fin : Option Wd
def Wd.cells (x : Wd) : List AV := [.int .i64 x.errno, .int .i64 x.dir, .str (bs x.name), .int .i64 x.inode, .int .i64 x.kind]
def Fd.cells (x : Fd) : List AV := [.int .i64 x.inode, .int .i64 x.kind, .str (bs x.target)]
def zeroW : Wd := ⟨0, 0, [], 0, 0⟩
def Wk.endA (w : Wk) : Wd := w.fin.getD zeroW
def Wk.cells (w : Wk) (pv : AV) : List AV := w.endA.cells ++ [.bool w.fin.isSome, .int .i64 w.at_, pv, .int .i64 w.links, .bool w.follow, .bool true]
def endM (w : Wk) (x : Wd) : Wk := { w with parts := [], fin := some x }
def dot (p : List UInt8) : Bool := p == [46]
def onM (w : Wk) : Wk := match w.parts.dropWhile dot with
  | [] => endM w ⟨0, 0, [], w.at_, 2⟩
  | l => { w with parts := l }
def slashed (t : List UInt8) : List UInt8 := if t.head? = some 47 then t else 47 :: t
def linkM (w : Wk) (t : List UInt8) : Wk :=
  if 8 < w.links + 1 then endM { w with links := w.links + 1 } ⟨272, 0, [], 0, 0⟩
  else if partsE (slashed t) = 0 then onM { w with links := w.links + 1, at_ := (if t.head? = some 47 then 1 else w.at_), parts := cutP (slashed t) ++ w.parts }
  else endM { w with links := w.links + 1, at_ := (if t.head? = some 47 then 1 else w.at_) } ⟨partsE (slashed t), 0, [], 0, 0⟩
def giveM (w : Wk) (f : Fd) : Wk := match w.parts with
  | [] => w
  | p :: r =>
    if p = [46, 46] then onM { w with parts := r, at_ := f.inode }
    else if r = [] then if f.kind = 3 ∧ w.follow = true then linkM { w with parts := r } f.target else endM w ⟨0, w.at_, p, f.inode, f.kind⟩
    else if f.kind = 2 then onM { w with parts := r, at_ := f.inode }
    else if f.kind = 3 then linkM { w with parts := r } f.target
    else endM w ⟨271, 0, [], 0, 0⟩
def missM (w : Wk) : Wk := match w.parts with
  | [p] => endM w ⟨270, w.at_, p, 0, 0⟩
  | _ => endM w ⟨270, 0, [], 0, 0⟩
def newM (path : List UInt8) (follow : Bool) : Wk := onM ⟨1, cutP path, 0, follow, none⟩
def Keep (a : Nat) (H H' : Heap) : Prop := H.length ≤ H'.length ∧ ∀ (i : Nat) (o : AObj), i ≠ a → H[i]? = some o → H'[i]? = some o
theorem Keep.refl (a : Nat) (H : Heap) : Keep a H H := ⟨Nat.le_refl _, fun _ _ _ h => h⟩
theorem Keep.trans {a : Nat} {H H' H'' : Heap} (h : Keep a H H') (k : Keep a H' H'') : Keep a H H'' := ⟨Nat.le_trans h.1 k.1, fun i o hi hh => k.2 i o hi (h.2 i o hi hh)⟩
theorem Keep.app (a : Nat) (H L : Heap) : Keep a H (H ++ L) := ⟨by simp, fun i o _ h => by rw [List.getElem?_append_left (List.getElem?_eq_some_iff.1 h).1]; exact h⟩
theorem Keep.set (a : Nat) (H : Heap) (o : AObj) : Keep a H (H.set a o) := ⟨by simp, fun i q hi h => by rw [List.getElem?_set_ne (fun e => hi e.symm)]; exact h⟩
end Go.Wlk
