/- TEXTS OF THE WALKS, put together: N11 N9 N12 KL KS KU JX JM KJ J0 J1 J2 J3 BG1 J4 D2 DM D3 D4 CB1. No condition but those stated. -/
import Derived.Test.YtogbblcnfcfflaaGreatQ1
import Derived.Test.YtogbblcnfcfflaaGreatAmRng
import Derived.Test.YtogbblcnfcfflaaGreatAmDef
import Derived.Test.YtogbblcnfcfflaaGreatAmFast
import Derived.KernelRfl
import Derived.Test.YtogbblcnfcfflaaGreatIFuns
import Derived.Test.YtogbblcnfcfflaaGreatAmSet
import Derived.Test.YtogbblcnfcfflaaGreatAmTop
import Derived.Test.YtogbblcnfcfflaaGreatAmLim
import Derived.Test.YtogbblcnfcfflaaGreatP1
open Int (reduceEq)
open Nat (reduceEqDiff reduceAdd reduceMul reduceLT reduceLeDiff)
set_option linter.all false
set_option maxHeartbeats 8000000
set_option maxRecDepth 1000000
namespace Go.Proofs.YtogbblcnfcfflaaGreat
open Go Go.Am Go.Rec Go.Ino
theorem unb (l : List UInt8) (m : Nat) : unbytes (List.take m (encs byA l)) = some (l.take m) := by
 have := encs_take (f := byA) l m
 rw [Nat.mul_one] at this
 rw [this,unbytes_encs]
def w10 (w2 w3 : Int) (r : List Int) : List Int := w2 :: w3 :: r.take 8
def textI (w1 w2 w3 : Int) (r : List Int) : ByteArray := ⟨((bytM (w2 :: w3 :: r)).take w1.toNat).toArray⟩
def decI (w0 w1 w2 w3 : Int) (r : List Int) : Ino :=
 ⟨w0 % 256,w0 / 256 % 16777216,if w0 % 256 = 1 then w1 else 0,if w0 % 256 = 1 then readE (w10 w2 w3 r) else [],if w0 % 256 = 2 then w2 else 0,if w0 % 256 = 2 then w3 else 0,
   if w0 % 256 = 3 then textI w1 w2 w3 r else ⟨#[]⟩⟩
def goodI (w0 w1 w2 w3 : Int) (r : List Int) : Prop := okI (decI w0 w1 w2 w3 r) /\ wordsI (decI w0 w1 w2 w3 r) = w0 :: w1 :: w2 :: w3 :: r
instance (w0 w1 w2 w3 : Int) (r : List Int) : Decidable (goodI w0 w1 w2 w3 r) := inferInstanceAs (Decidable (_ /\ _))
def mapV (l : List Ext) : AV := slvR 3 extA l
theorem MapR.of (l : List Ext) : MapR (mapV l) l := by
 unfold mapV slvR
 cases l with
 | nil => exact MapR.nil
 | cons x r => exact ⟨3,[],.ro,by rw [List.append_nil]; rfl,fun _ => rfl,rfl,rfl⟩
def wlit (w0 w1 w2 w3 : Int) (r : List Int) (rest : List AV) : List AV := .int .u64 w0 :: .int .u64 w1 :: .int .u64 w2 :: .int .u64 w3 :: (encs u64A r ++ rest)
theorem wlit_eq (w0 w1 w2 w3 : Int) (r : List Int) (rest : List AV) : encs u64A (w0 :: w1 :: w2 :: w3 :: r) ++ rest = wlit w0 w1 w2 w3 r rest := rfl
structure WOk (w0 w1 w2 w3 : Int) (r : List Int) (rest : List AV) : Prop where
 len : r.length = 12
 u0 : 0 <= w0 /\ w0 < 18446744073709551616
 u1 : 0 <= w1 /\ w1 < 18446744073709551616
 u2 : 0 <= w2 /\ w2 < 18446744073709551616
 u3 : 0 <= w3 /\ w3 < 18446744073709551616
 ur : ∀ x ∈ r,0 <= x /\ x < 18446744073709551616
 hf : hfL rest = true
theorem WOk.w10 {w0 w1 w2 w3 : Int} {r : List Int} {rest : List AV} (h : WOk w0 w1 w2 w3 r rest) : (w10 w2 w3 r).length = 10 /\ ∀ x ∈ w10 w2 w3 r,0 <= x /\ x < 18446744073709551616 := by
 refine ⟨by simp [Go.Proofs.YtogbblcnfcfflaaGreat.w10,h.len],fun x hx => ?_⟩
 rcases List.mem_cons.1 hx with rfl | hx
 . exact h.u2
 rcases List.mem_cons.1 hx with rfl | hx
 . exact h.u3
 exact h.ur x (List.mem_of_mem_take hx)
theorem t8 {w0 w1 w2 w3 : Int} {r : List Int} {rest : List AV} (h : WOk w0 w1 w2 w3 r rest) : List.take 8 (encs u64A r ++ rest) = encs u64A (r.take 8) := by
 rw [List.take_append_of_le_length (by rw [lenU,h.len]; decide),encs_mapU,encs_mapU,List.map_take]
def TakeOk (f : FuncId) (w0 w1 w2 w3 : Int) (r : List Int) (rest : List AV) (u : Tk) (n n' : Ino) : Prop := ∀ (id : Nat) (H : Heap),H[id]? = some (.cells (inoC n nilm')) →
 ∃ H',(cbL tab).ic f [.ptr id 0,.sl 1 16 (wlit w0 w1 w2 w3 r rest) u] H = some (.ret (.tup []),H') /\ H'[id]? = some (.cells (inoC n' (mapV n'.map))) /\ H.length <= H'.length /\ ∀ k,k ≠ id -> k < H.length -> H'[k]? = H[k]?
def TakeNo (f : FuncId) (w0 w1 w2 w3 : Int) (r : List Int) (rest : List AV) (u : Tk) (n : Ino) : Prop := ∀ (id : Nat) (H : Heap),H[id]? = some (.cells (inoC n nilm')) →
 ∃ H',(cbL tab).ic f [.ptr id 0,.sl 1 16 (wlit w0 w1 w2 w3 r rest) u] H = some (.pan [(.iface 37 (.int .i64 240),false)],H') /\ H.length <= H'.length /\ ∀ k,k ≠ id -> k < H.length -> H'[k]? = H[k]?
theorem take_none (f : FuncId) (hl : (cbL tab).lent f = false) (fi : AFun) (ht : tab f = some fi) (hmode : fi.mode = 1) (id : Nat) (v : AV) (H : Heap) (hcon : fi.con = none := by rfl) : pcx (cbL tab) f [.ptr id 0,v] H = none :=
 pcx_none hl (pc_none ht (by simp [pcOn,hmode,lend,unown,hfL,AV.hf]) hcon)
theorem take0 (w0 w1 w2 w3 : Int) (r : List Int) (rest : List AV) (u : Tk) (n : Ino) (hn : n.map = []) : TakeOk 233 w0 w1 w2 w3 r rest u n n := by
 intro id H hid
 have : ∃ o H',(cbL tab).ic 233 [.ptr id 0,.sl 1 16 (wlit w0 w1 w2 w3 r rest) u] H = some (o,H') /\ o = .ret (.tup []) /\ H' = H := by
   refine ic_wp (fi := c233) rfl rfl (by simp [c233]) (by decide) ?_
   unfold c233
   simp (disch := omega) only [wk,tupled,↓reduceIte,reduceEqDiff,reduceEq,reduceAdd,reduceCtorEq]
 obtain ⟨o,H',h,rfl,rfl⟩ := this
 refine ⟨_,h, ?_,Nat.le_refl _,fun _ _ _ => rfl⟩
 rw [hn]; exact hid
theorem take2_ok (w0 w1 w2 w3 : Int) (r : List Int) (rest : List AV) (u : Tk) (k l : Int) (hw : WOk w0 w1 w2 w3 r rest) (h : (1 <= w2 /\ w2 <= 2047) /\ (1 <= w3 /\ w3 <= 256)) :
   TakeOk 248 w0 w1 w2 w3 r rest u ⟨k,l,0,[],0,0,⟨#[]⟩⟩ ⟨k,l,0,[],w2,w3,⟨#[]⟩⟩ := by
 intro id H hid
 have hlt : id < H.length := (List.getElem?_eq_some_iff.1 hid).1
 have : ∃ o H',(cbL tab).ic 248 [.ptr id 0,.sl 1 16 (wlit w0 w1 w2 w3 r rest) u] H = some (o,H') /\ o = .ret (.tup []) /\ H'[id]? = some (.cells (inoC ⟨k,l,0,[],w2,w3,⟨#[]⟩⟩ nilm')) /\ H.length <= H'.length /\ ∀ k,k ≠ id -> k < H.length -> H'[k]? = H[k]? := by
   refine ic_wp (fi := c248) rfl rfl (by simp [c248]) (by decide) ?_
   unfold c248 wlit
   unfold inoC nilm' at hid ⊢
   have i2 : (2 : Int).toNat = 2 := rfl
   have i3 : (3 : Int).toNat = 3 := rfl
   have p1 := fun H => inw_px w2 1 2047 H
   have p2 := fun H => inw_px w3 1 256 H
   have mt := fun H => must_t H
   rw [decide_eq_true h.1] at p1
   rw [decide_eq_true h.2] at p2
   have v1 : IntKind.i64.wrap w2 = w2 := wrap_i64 (by omega) (by omega)
   have v2 : IntKind.i64.wrap w3 = w3 := wrap_i64 (by omega) (by omega)
   have sg : ∀ A,(H.set id A)[id]? = some A := fun A => List.getElem?_set_self hlt
   simp (disch := omega) only [wk,tupled,↓reduceIte,reduceEqDiff,reduceEq,reduceAdd,reduceCtorEq,i2,i3,p1,p2,mt,v1,v2,hid,fve,sg,List.set_set]
   exact ⟨by rw [List.length_set]; exact Nat.le_refl _,fun k hk _ => List.getElem?_set_ne (fun e => hk e.symm)⟩
 obtain ⟨o,H',h,rfl,h2⟩ := this
 exact ⟨H',h,h2⟩
theorem take2_no (w0 w1 w2 w3 : Int) (r : List Int) (rest : List AV) (u : Tk) (n : Ino) (hw : WOk w0 w1 w2 w3 r rest) (h : ¬ ((1 <= w2 /\ w2 <= 2047) /\ (1 <= w3 /\ w3 <= 256))) :
   TakeNo 248 w0 w1 w2 w3 r rest u n := by
 intro id H hid
 have : ∃ o H',(cbL tab).ic 248 [.ptr id 0,.sl 1 16 (wlit w0 w1 w2 w3 r rest) u] H = some (o,H') /\ o = .pan [(.iface 37 (.int .i64 240),false)] /\ H' = H := by
   refine ic_wp (fi := c248) rfl rfl (by simp [c248]) (by decide) ?_
   unfold c248 wlit
   have i2 : (2 : Int).toNat = 2 := rfl
   have i3 : (3 : Int).toNat = 3 := rfl
   have p1 := fun H => inw_px w2 1 2047 H
   have p2 := fun H => inw_px w3 1 256 H
   have mf := fun H => must_f H
   by_cases h1 : 1 <= w2 /\ w2 <= 2047
   . have h2 : ¬ (1 <= w3 /\ w3 <= 256) := fun h2 => h ⟨h1,h2⟩
     rw [decide_eq_true h1] at p1
     rw [decide_eq_false h2] at p2
     clear h h1 h2
     simp (disch := omega) only [wk,tupled,↓reduceIte,reduceEqDiff,reduceEq,reduceAdd,reduceCtorEq,i2,i3,p1,p2,mf]
   . rw [decide_eq_false h1] at p1
     clear h h1
     simp (disch := omega) only [wk,tupled,↓reduceIte,reduceEqDiff,reduceEq,reduceAdd,reduceCtorEq,i2,i3,p1,mf]
 obtain ⟨o,H',h,rfl,rfl⟩ := this
 exact ⟨_,h,Nat.le_refl _,fun _ _ _ => rfl⟩
theorem take1_ok (w0 w1 w2 w3 : Int) (r : List Int) (rest : List AV) (u : Tk) (k l : Int) (hw : WOk w0 w1 w2 w3 r rest) (h1 : 0 <= w1 /\ w1 <= 65536) (h2 : (ofM (readE (w10 w2 w3 r))).isSome = true /\ wordsE (readE (w10 w2 w3 r)) = w10 w2 w3 r) :
   TakeOk 242 w0 w1 w2 w3 r rest u ⟨k,l,0,[],0,0,⟨#[]⟩⟩ ⟨k,l,w1,readE (w10 w2 w3 r),0,0,⟨#[]⟩⟩ := by
 intro id H hid
 have hlt : id < H.length := (List.getElem?_eq_some_iff.1 hid).1
 have : ∃ o H',(cbL tab).ic 242 [.ptr id 0,.sl 1 16 (wlit w0 w1 w2 w3 r rest) u] H = some (o,H') /\ o = .ret (.tup []) /\ H'[id]? = some (.cells (inoC ⟨k,l,w1,readE (w10 w2 w3 r),0,0,⟨#[]⟩⟩ (mapV (readE (w10 w2 w3 r))))) /\ H.length <= H'.length /\ ∀ k,k ≠ id -> k < H.length -> H'[k]? = H[k]? := by
   refine ic_wp (fi := c242) rfl rfl (by simp [c242]) (by decide) ?_
   unfold c242 wlit
   unfold inoC nilm' at hid
   unfold inoC
   have i1 : (1 : Int).toNat = 1 := rfl
   have i2 : (2 : Int).toNat = 2 := rfl
   have i12 : (12 : Int).toNat = 12 := rfl
   have p1 := fun H => inw_px w1 0 65536 H
   rw [decide_eq_true h1] at p1
   have mt := fun H => must_t H
   have xr := fun H => xread_px (w10 w2 w3 r) hw.w10.1 hw.w10.2 H
   have er : readR (w10 w2 w3 r) = (readE (w10 w2 w3 r),0) := if_pos h2
   rw [er] at xr
   have ea : arrV (w10 w2 w3 r) = .agg (.int .u64 w2 :: .int .u64 w3 :: encs u64A (r.take 8)) := rfl
   rw [ea] at xr
   simp only [readV] at xr
   have tt := t8 hw
   have lr : (encs u64A r).length = 12 := by rw [lenU,hw.len]
   have v1 : IntKind.i64.wrap w1 = w1 := wrap_i64 (by omega) (by omega)
   have sg : ∀ A,(H.set id A)[id]? = some A := fun A => List.getElem?_set_self hlt
   have mv1 := (MapR.of (readE (w10 w2 w3 r))).one.1
   have mv2 := (MapR.of (readE (w10 w2 w3 r))).one.2
   unfold mapV at mv1 mv2 ⊢
   simp (disch := omega) only [wk,tupled,↓reduceIte,reduceEqDiff,reduceEq,reduceAdd,reduceCtorEq,i1,i2,i12,p1,xr,mt,tt,lr,v1,hid,sg,List.set_set,mv1,mv2]
   exact ⟨by rw [List.length_set]; exact Nat.le_refl _,fun k hk _ => List.getElem?_set_ne (fun e => hk e.symm)⟩
 obtain ⟨o,H',h,rfl,h2⟩ := this
 exact ⟨H',h,h2⟩
theorem take1_no (w0 w1 w2 w3 : Int) (r : List Int) (rest : List AV) (u : Tk) (n : Ino) (hw : WOk w0 w1 w2 w3 r rest) (h : ¬ ((0 <= w1 /\ w1 <= 65536) /\ (ofM (readE (w10 w2 w3 r))).isSome = true /\ wordsE (readE (w10 w2 w3 r)) = w10 w2 w3 r)) :
   TakeNo 242 w0 w1 w2 w3 r rest u n := by
 intro id H hid
 have : ∃ o H',(cbL tab).ic 242 [.ptr id 0,.sl 1 16 (wlit w0 w1 w2 w3 r rest) u] H = some (o,H') /\ o = .pan [(.iface 37 (.int .i64 240),false)] /\ H' = H := by
   refine ic_wp (fi := c242) rfl rfl (by simp [c242]) (by decide) ?_
   unfold c242 wlit
   have i1 : (1 : Int).toNat = 1 := rfl
   have i2 : (2 : Int).toNat = 2 := rfl
   have i12 : (12 : Int).toNat = 12 := rfl
   have p1 := fun H => inw_px w1 0 65536 H
   have mf := fun H => must_f H
   have xr := fun H => xread_px (w10 w2 w3 r) hw.w10.1 hw.w10.2 H
   have ea : arrV (w10 w2 w3 r) = .agg (.int .u64 w2 :: .int .u64 w3 :: encs u64A (r.take 8)) := rfl
   rw [ea] at xr
   have tt := t8 hw
   have lr : (encs u64A r).length = 12 := by rw [lenU,hw.len]
   by_cases h2 : (ofM (readE (w10 w2 w3 r))).isSome = true /\ wordsE (readE (w10 w2 w3 r)) = w10 w2 w3 r
   . have er : readR (w10 w2 w3 r) = (readE (w10 w2 w3 r),0) := if_pos h2
     have h1 : ¬ (0 <= w1 /\ w1 <= 65536) := fun h1 => h ⟨h1,h2⟩
     rw [er] at xr
     rw [decide_eq_false h1] at p1
     simp only [readV] at xr
     clear h h1 h2
     simp (disch := omega) only [wk,tupled,↓reduceIte,reduceEqDiff,reduceEq,reduceAdd,reduceCtorEq,i1,i2,i12,p1,xr,mf,tt,lr]
   . have er : readR (w10 w2 w3 r) = ([],2) := if_neg h2
     rw [er] at xr
     simp only [readV] at xr
     clear h h2
     simp (disch := omega) only [wk,tupled,↓reduceIte,reduceEqDiff,reduceEq,reduceAdd,reduceCtorEq,i1,i2,i12,xr,mf,tt,lr]
 obtain ⟨o,H',h,rfl,rfl⟩ := this
 exact ⟨_,h,Nat.le_refl _,fun _ _ _ => rfl⟩
theorem take3_no (w0 w1 w2 w3 : Int) (r : List Int) (rest : List AV) (u : Tk) (n : Ino) (hw : WOk w0 w1 w2 w3 r rest) (h : ¬ (1 <= w1 /\ w1 <= 112)) :
   TakeNo 254 w0 w1 w2 w3 r rest u n := by
 intro id H hid
 have : ∃ o H',(cbL tab).ic 254 [.ptr id 0,.sl 1 16 (wlit w0 w1 w2 w3 r rest) u] H = some (o,H') /\ o = .pan [(.iface 37 (.int .i64 240),false)] /\ H' = H := by
   refine ic_wp (fi := c254) rfl rfl (by simp [c254]) (by decide) ?_
   unfold c254 wlit
   have i1 : (1 : Int).toNat = 1 := rfl
   have p1 := fun H => inw_px w1 1 112 H
   rw [decide_eq_false h] at p1
   have mf := fun H => must_f H
   clear h
   simp (disch := omega) only [wk,tupled,↓reduceIte,reduceEqDiff,reduceEq,reduceAdd,reduceCtorEq,i1,p1,mf]
 obtain ⟨o,H',h,rfl,rfl⟩ := this
 exact ⟨_,h,Nat.le_refl _,fun _ _ _ => rfl⟩
theorem take3_ok (w0 w1 w2 w3 : Int) (r : List Int) (rest : List AV) (u : Tk) (k l : Int) (hw : WOk w0 w1 w2 w3 r rest) (h1 : 1 <= w1 /\ w1 <= 112) :
   TakeOk 254 w0 w1 w2 w3 r rest u ⟨k,l,0,[],0,0,⟨#[]⟩⟩ ⟨k,l,0,[],0,0,textI w1 w2 w3 r⟩ := by
 intro id H hid
 have hlt : id < H.length := (List.getElem?_eq_some_iff.1 hid).1
 have : ∃ o H',(cbL tab).ic 254 [.ptr id 0,.sl 1 16 (wlit w0 w1 w2 w3 r rest) u] H = some (o,H') /\ o = .ret (.tup []) /\ H'[id]? = some (.cells (inoC ⟨k,l,0,[],0,0,textI w1 w2 w3 r⟩ nilm')) /\ H.length <= H'.length /\ ∀ k,k ≠ id -> k < H.length -> H'[k]? = H[k]? := by
   refine ic_wp (fi := c254) rfl rfl (by simp [c254]) (by decide) ?_
   unfold c254 wlit
   unfold inoC nilm' at hid ⊢
   have i1 : (1 : Int).toNat = 1 := rfl
   have i2 : (2 : Int).toNat = 2 := rfl
   have i14 : 16 - 2 = 14 := rfl
   have p1 := fun H => inw_px w1 1 112 H
   rw [decide_eq_true h1] at p1
   have mt := fun H => must_t H
   have bv := fun H => bytes_v (l := w2 :: w3 :: r) (rest := rest) (s := 1) (tk := .ro) (H := H) (lendK_sl ..) (by simp [hw.len]) rfl hw.hf (fun x hx => by
     rcases List.mem_cons.1 hx with rfl | hx
     . exact hw.u2
     rcases List.mem_cons.1 hx with rfl | hx
     . exact hw.u3
     exact hw.ur x hx) rfl
   have l14 : (w2 :: w3 :: r).length = 14 := by simp [hw.len]
   have eb : encs u64A (w2 :: w3 :: r) ++ rest = .int .u64 w2 :: .int .u64 w3 :: (encs u64A r ++ rest) := rfl
   rw [l14,eb] at bv
   have lB : (bytM (w2 :: w3 :: r)).length = 112 := by rw [bytM_len,l14]
   have lC : (encs byA (bytM (w2 :: w3 :: r))).length = 112 := by rw [encs_length (k := 1),lB]
   have nB : bytM (w2 :: w3 :: r) ≠ [] := by intro e; rw [e] at lB; cases lB
   have pB : prRow 1 byA (bytM (w2 :: w3 :: r)) = .fresh 1 112 (encs byA (bytM (w2 :: w3 :: r))) := by rw [prRow_ne nB,lB]
   have mle : w1.toNat <= 112 := by omega
   have m0 : 0 <= w1 := by omega
   have hsl : ∀ g,(if w1.toNat = 112 then AV.sl 1 112 (encs byA (bytM (w2 :: w3 :: r))) (.own g) else .sl 1 w1.toNat (encs byA (bytM (w2 :: w3 :: r))) .ro) = .sl 1 w1.toNat (encs byA (bytM (w2 :: w3 :: r))) (if w1.toNat = 112 then .own g else .ro) := by
     intro g
     split
     . rename_i h; rw [h]
     . rfl
   have lr : (encs u64A r).length = 12 := by rw [lenU,hw.len]
   have eT : ByteArray.mk (List.toArray ((bytM (w2 :: w3 :: r)).take w1.toNat)) = textI w1 w2 w3 r := rfl
   have up : ∀ A : AObj,(H ++ [A])[id]? = H[id]? := fun A => List.getElem?_append_left hlt
   simp (disch := omega) only [wk,tupled,↓reduceIte,reduceEqDiff,reduceEq,reduceAdd,reduceCtorEq,i1,i2,i14,p1,bv,pB,mt,lr,lC,mle,m0,hsl,unb,eT,hid,up,true_or,Nat.le_add_left,Nat.le_add_right]
   exact ⟨List.getElem?_set_self (by simp; omega),by simp,fun k hk hk2 => by rw [List.getElem?_set_ne (fun e => hk e.symm),List.getElem?_append_left hk2]⟩
 obtain ⟨o,H',h,rfl,h2⟩ := this
 exact ⟨H',h,h2⟩
def takeF (k : Int) : FuncId := if k = 1 then 242 else if k = 2 then 248 else if k = 3 then 254 else 233
theorem takeF_none (k : Int) (id : Nat) (v : AV) (H : Heap) : pcx (cbL tab) (takeF k) [.ptr id 0,v] H = none := by
 unfold takeF
 split
 . exact take_none _ rfl c242 rfl rfl id v H
 split
 . exact take_none _ rfl c248 rfl rfl id v H
 split
 . exact take_none _ rfl c254 rfl rfl id v H
 . exact take_none _ rfl c233 rfl rfl id v H
theorem takeF_lent (k : Int) : (cbL tab).lent (takeF k) = false := by
 unfold takeF
 split
 . rfl
 split
 . rfl
 split <;> rfl
theorem kindA_take (k : Int) : ∃ f1 f2 f3,kindA k = .agg [.fn f1 [],.fn f2 [],.fn f3 [],.fn (takeF k) []] := by
 unfold kindA takeF
 by_cases h1 : k = 1
 . simp only [h1,if_true]; exact ⟨_,_,_,rfl⟩
 by_cases h2 : k = 2
 . simp only [h2,if_true,show ¬ (2 : Int) = 1 by decide,if_false]; exact ⟨_,_,_,rfl⟩
 by_cases h3 : k = 3
 . simp only [h3,if_true,show ¬ (3 : Int) = 1 by decide,show ¬ (3 : Int) = 2 by decide,if_false]; exact ⟨_,_,_,rfl⟩
 simp only [h1,h2,h3,if_false]; exact ⟨_,_,_,rfl⟩
theorem find_k {k : Int} (h0 : 0 <= k) (h3 : k <= 3) : ∃ i,findA 0 (.int .i64 k) kindsE 0 = some (some (i,kindA k)) := by
 have : k = 0 ∨ k = 1 ∨ k = 2 ∨ k = 3 := by omega
 rcases this with rfl | rfl | rfl | rfl
 . exact ⟨_,find0⟩
 . exact ⟨_,find1⟩
 . exact ⟨_,find2⟩
 . exact ⟨_,find3⟩
theorem take_all (w0 w1 w2 w3 : Int) (r : List Int) (rest : List AV) (u : Tk) (hw : WOk w0 w1 w2 w3 r rest) (hk : w0 % 256 <= 3) :
   TakeOk (takeF (w0 % 256)) w0 w1 w2 w3 r rest u ⟨w0 % 256,w0 / 256 % 16777216,0,[],0,0,⟨#[]⟩⟩ (decI w0 w1 w2 w3 r) ∨
   (TakeNo (takeF (w0 % 256)) w0 w1 w2 w3 r rest u ⟨w0 % 256,w0 / 256 % 16777216,0,[],0,0,⟨#[]⟩⟩ /\ ¬ goodI w0 w1 w2 w3 r) := by
 have hcase : w0 % 256 = 0 ∨ w0 % 256 = 1 ∨ w0 % 256 = 2 ∨ w0 % 256 = 3 := by have := hw.u0; omega
 rcases hcase with h | h | h | h
 . left
   have e : decI w0 w1 w2 w3 r = ⟨0,w0 / 256 % 16777216,0,[],0,0,⟨#[]⟩⟩ := by simp [decI,h]
   rw [e,h]
   exact take0 w0 w1 w2 w3 r rest u _ rfl
 . have e : decI w0 w1 w2 w3 r = ⟨1,w0 / 256 % 16777216,w1,readE (w10 w2 w3 r),0,0,⟨#[]⟩⟩ := by simp [decI,h]
   by_cases c : (0 <= w1 /\ w1 <= 65536) /\ (ofM (readE (w10 w2 w3 r))).isSome = true /\ wordsE (readE (w10 w2 w3 r)) = w10 w2 w3 r
   . left
     rw [e,h]
     exact take1_ok w0 w1 w2 w3 r rest u _ _ hw c.1 c.2
   . right
     refine ⟨by rw [h]; exact take1_no w0 w1 w2 w3 r rest u _ hw c,fun hg => c ?_⟩
     obtain ⟨g1,g2⟩ := hg
     rw [e] at g1 g2
     obtain ⟨_,_,a,b,d⟩ := (okI_1 rfl).1 g1
     refine ⟨⟨a,b⟩,mapOk_some d, ?_⟩
     have hl := wordsE_len (isSome_right (mapOk_some d)).1
     have ht : tailI ⟨1,w0 / 256 % 16777216,w1,readE (w10 w2 w3 r),0,0,⟨#[]⟩⟩ = w1 :: wordsE (readE (w10 w2 w3 r)) := rfl
     unfold wordsI at g2
     rw [ht] at g2
     simp only [List.cons_append,List.cons.injEq] at g2
     have g3 := congrArg (List.take 10) g2.2.2
     rw [List.take_append_of_le_length (by rw [hl]; exact Nat.le_refl _),List.take_of_length_le (by rw [hl]; exact Nat.le_refl _)] at g3
     exact g3
 . have e : decI w0 w1 w2 w3 r = ⟨2,w0 / 256 % 16777216,0,[],w2,w3,⟨#[]⟩⟩ := by simp [decI,h]
   by_cases c : (1 <= w2 /\ w2 <= 2047) /\ (1 <= w3 /\ w3 <= 256)
   . left
     rw [e,h]
     exact take2_ok w0 w1 w2 w3 r rest u _ _ hw c
   . right
     refine ⟨by rw [h]; exact take2_no w0 w1 w2 w3 r rest u _ hw c,fun hg => c ?_⟩
     obtain ⟨g1,_⟩ := hg
     rw [e] at g1
     obtain ⟨_,_,a,b,d,f⟩ := (okI_2 rfl).1 g1
     exact ⟨⟨a,b⟩,⟨d,f⟩⟩
 . have e : decI w0 w1 w2 w3 r = ⟨3,w0 / 256 % 16777216,0,[],0,0,textI w1 w2 w3 r⟩ := by simp [decI,h]
   by_cases c : 1 <= w1 /\ w1 <= 112
   . left
     rw [e,h]
     exact take3_ok w0 w1 w2 w3 r rest u _ _ hw c
   . right
     refine ⟨by rw [h]; exact take3_no w0 w1 w2 w3 r rest u _ hw c,fun hg => c ?_⟩
     obtain ⟨g1,g2⟩ := hg
     rw [e] at g1 g2
     obtain ⟨_,_,a,b,d⟩ := (okI_3 rfl).1 g1
     have ht : tailI ⟨3,w0 / 256 % 16777216,0,[],0,0,textI w1 w2 w3 r⟩ = ((textI w1 w2 w3 r).size : Int) :: layM (textI w1 w2 w3 r).data.toList := rfl
     unfold wordsI at g2
     rw [ht] at g2
     simp only [List.cons_append,List.cons.injEq] at g2
     have g3 := g2.2.1
     simp only at a b
     omega
theorem clear66 (o : Nat) (x : List AV) (H : Heap) (hx : H[o]? = some (.cells x)) (hl : x.length = 7) : enterA (cbL tab) 185 [.ptr o 0] H = some (.ret (.tup []),H.set o (.cells (inoC zeroI nilm'))) := by
 have : ∃ q H',(cbL tab).ic 185 [.ptr o 0] H = some (q,H') /\ q = .ret (.tup []) /\ H' = H.set o (.cells (inoC zeroI nilm')) := by
   refine ic_wp (fi := c185) rfl rfl (by simp [c185]) (by decide) ?_
   unfold c185
   have d7 : List.drop 7 x = [] := List.drop_of_length_le (by omega)
   have z : inoC zeroI nilm' = [.int .i64 0,.int .i64 0,.int .i64 0,.sl 0 0 [] .z,.int .i64 0,.int .i64 0,.str ⟨#[]⟩] := rfl
   rw [z]
   simp (disch := omega) only [wk,tupled,↓reduceIte,reduceEqDiff,reduceEq,reduceAdd,reduceCtorEq,hx,hl,d7,List.append_nil]
 obtain ⟨q,H',h,rfl,rfl⟩ := this
 exact enterA_ic rfl (pc_none (fi := c185) rfl rfl) h
def ofIV (n : Ino) (e : Int) : AV := .tup [inoA n (mapV n.map),.int .i64 e]
def mapU (l : List Ext) : AV := if l.isEmpty then .sl 0 0 [] .z else .any
def ofIU (n : Ino) (e : Int) : AV := .tup [inoA n (mapU n.map),.int .i64 e]
theorem mapU_one (l : List Ext) : (mapU l).flat = [mapU l] /\ (mapU l).one = true := by cases l <;> exact ⟨rfl,rfl⟩
theorem newO_ofI (n : Ino) (e : Int) (H : Heap) : newO (some (.ret (.tup [inoA n (mapV n.map),.int .i64 e]),H)) = some (.fval (ofIU n e)) := by
 have hc : ∀ s : ByteArray,newC H (.str s) = some (.str s) := fun _ => rfl
 have hi : ∀ k i,newC H (.int k i) = some (.int k i) := fun _ _ => rfl
 have hm : newC H (mapV n.map) = some (mapU n.map) := by
   unfold mapV mapU slvR
   cases n.map with
   | nil => rfl
   | cons x r => rfl
 simp only [newO,newV,mapN,newA,inoA,hc,hi,hm,Option.map_some,ofIU]
theorem pcx_L5 {cb : CB} {H : Heap} {f : FuncId} {args args' : List AV} {v : AV} (hl : cb.lent f = true) (hid : args.map (lendK H 4) = args') (h : cb.pc f args' = some (.fval v)) : pcx cb f args H = some (.plain v) := by
 unfold pcx
 rw [if_pos hl,enterL,hid,h]
def ofI (w0 w1 w2 w3 : Int) (r : List Int) : Ino × Int := if w0 = 0 then (zeroI,0) else if goodI w0 w1 w2 w3 r then (decI w0 w1 w2 w3 r,0) else (zeroI,240)
theorem xofI_px (w0 w1 w2 w3 : Int) (r : List Int) (rest : List AV) (tk : Tk) (H : Heap) (hw : WOk w0 w1 w2 w3 r rest) :
   pcx (cbL tab) 111 [.sl 1 16 (wlit w0 w1 w2 w3 r rest) tk] H = some (.plain (ofIU (ofI w0 w1 w2 w3 r).1 (ofI w0 w1 w2 w3 r).2)) := by
 obtain ⟨u1,e1,f1⟩ := lend_sl 1 16 (wlit w0 w1 w2 w3 r rest) tk
 refine pcx_L5 rfl (by rw [List.map_cons,List.map_nil,lendK_sl]) (pc_wp5 (fi := c111) rfl ?_ (by simp [c111]) (by decide) ?_)
 . rw [<- wlit_eq]; simp only [pcOn,List.map_cons,List.map_nil,hfL,hf_lend_sl,hf_lend_int,hf_lend_bool,hf_lend_str,hfL_append,Bool.and_self,Bool.and_true,Bool.true_and,c111,hf_u64A,hw.hf]
 unfold c111
 rw [List.map_cons,List.map_nil,e1]
 have mt := fun H => must_t H
 have mf := fun H => must_f H
 have pz := fun e H => newO_ofI zeroI e H
 have ez : inoA zeroI (mapV zeroI.map) = .agg [.int .i64 0,.int .i64 0,.int .i64 0,.sl 0 0 [] .z,.int .i64 0,.int .i64 0,.str ⟨#[]⟩] := rfl
 have ec : inoC zeroI nilm' = [.int .i64 0,.int .i64 0,.int .i64 0,.sl 0 0 [] .z,.int .i64 0,.int .i64 0,.str ⟨#[]⟩] := rfl
 have i16 : ((16 : Nat) : Int) = 16 := rfl
 have i0 : (0 : Int).toNat = 0 := rfl
 have ro : ofI w0 w1 w2 w3 r = if w0 = 0 then (zeroI,0) else if goodI w0 w1 w2 w3 r then (decI w0 w1 w2 w3 r,0) else (zeroI,240) := rfl
 rw [ez] at pz
 by_cases h0 : w0 = 0
 . rw [if_pos h0] at ro
   rw [ro]
   subst h0
   unfold wlit
   simp (disch := omega) only [wk,tupled,↓reduceIte,reduceEqDiff,reduceEq,reduceAdd,reduceCtorEq,i16,i0,mt]
   rw [ends_left_ret (caught_ret _ _ _ _)]
   simp (disch := omega) only [wk,tupled,↓reduceIte,reduceEqDiff,reduceEq,reduceAdd,reduceCtorEq,pz]
 rw [if_neg h0] at ro
 have fa := fun H => f08 w0 hw.u0.1 hw.u0.2 H
 have fb := fun H => f824 w0 hw.u0.1 hw.u0.2 H
 have v1 : IntKind.i64.wrap (w0 % 256) = w0 % 256 := wrap_i64 (by omega) (by omega)
 have v2 : IntKind.i64.wrap (w0 / 256 % 16777216) = w0 / 256 % 16777216 := wrap_i64 (by omega) (by omega)
 have kp := fun H => kinds_px H
 by_cases hk : w0 % 256 <= 3
 case neg =>
   have hg : ¬ goodI w0 w1 w2 w3 r := fun h => by have := okI_kind h.1; simp only [decI] at this; omega
   rw [if_neg hg] at ro
   rw [ro]
   have fd := find_no (k := w0 % 256) (by omega) (by omega) (by omega) (by omega)
   unfold wlit
   simp (disch := omega) only [wk,tupled,↓reduceIte,reduceEqDiff,reduceEq,reduceAdd,reduceCtorEq,i16,i0,mt,h0,fa,fb,v1,v2,kp,List.getElem?_nil,fd,cellEq_ii,mf]
   rw [ends_left_pan (caught_pan 1 _ _ _ _ _ _ _ (clear66 0 _ _ rfl rfl) rfl),ec]
   simp (disch := omega) only [wk,tupled,↓reduceIte,reduceEqDiff,reduceEq,reduceAdd,reduceCtorEq,pz]
 obtain ⟨q,fd⟩ := find_k (k := w0 % 256) (by omega) hk
 obtain ⟨f1',f2',f3',hka⟩ := kindA_take (w0 % 256)
 rw [hka] at fd
 have tn := fun v H => takeF_none (w0 % 256) 2 v H
 have tl := takeF_lent (w0 % 256)
 obtain ⟨Hd,hHd⟩ : ∃ Hd : Heap,Hd = [.cells [.int .i64 0,.int .i64 0,.int .i64 0,.sl 0 0 [] .z,.int .i64 0,.int .i64 0,.str ⟨#[]⟩],.cells [.int .i64 0],.cells (inoC ⟨w0 % 256,w0 / 256 % 16777216,0,[],0,0,⟨#[]⟩⟩ nilm'),.map kindsE,.cells [.fn f1' [],.fn f2' [],.fn f3' [],.fn (takeF (w0 % 256)) []]] := ⟨_,rfl⟩
 rcases take_all w0 w1 w2 w3 r rest u1 hw hk with ht | ⟨ht,hg⟩
 . obtain ⟨H2,p2,p3,p4,p5⟩ := ht 2 Hd (by rw [hHd]; rfl)
   have q0 : H2[0]? = some (.cells [.int .i64 0,.int .i64 0,.int .i64 0,.sl 0 0 [] .z,.int .i64 0,.int .i64 0,.str ⟨#[]⟩]) := by rw [p5 0 (by decide) (by rw [hHd]; simp),hHd]; rfl
   have q1 : H2[1]? = some (.cells [.int .i64 0]) := by rw [p5 1 (by decide) (by rw [hHd]; simp),hHd]; rfl
   have s0 : 0 < H2.length := (List.getElem?_eq_some_iff.1 q0).1
   have s1 : 1 < H2.length := (List.getElem?_eq_some_iff.1 q1).1
   have s2 : 2 < H2.length := (List.getElem?_eq_some_iff.1 p3).1
   have g0 : ∀ A B,((H2.set 0 A).set 1 B)[0]? = some A := fun A B => by rw [List.getElem?_set_ne (by decide),List.getElem?_set_self s0]
   have g1 : ∀ A B,((H2.set 0 A).set 1 B)[1]? = some B := fun A B => List.getElem?_set_self (by rw [List.length_set]; exact s1)
   have g2 : ∀ A,(H2.set 0 A)[1]? = some (.cells [.int .i64 0]) := fun A => by rw [List.getElem?_set_ne (by decide)]; exact q1
   rw [hHd] at p2
   have hml : (decI w0 w1 w2 w3 r).map.length <= 1000 := by
     simp only [decI]
     split
     . have := readE_len (w10 w2 w3 r)
       have := hw.w10.1
       omega
     . simp
   have wp := fun H => words_px (decI w0 w1 w2 w3 r) (mapV (decI w0 w1 w2 w3 r).map) (MapR.of _) hml H
   have mo1 := (MapR.of (decI w0 w1 w2 w3 r).map).one.1
   have mo2 := (MapR.of (decI w0 w1 w2 w3 r).map).one.2
   have pd := fun H => newO_ofI (decI w0 w1 w2 w3 r) 0 H
   simp only [inoA] at wp pd
   unfold wlit inoC nilm' at p2
   unfold inoC at p3
   unfold wlit
   by_cases ho : okI (decI w0 w1 w2 w3 r)
   case neg =>
     have hg : ¬ goodI w0 w1 w2 w3 r := fun h => ho h.1
     rw [if_neg hg] at ro
     rw [ro]
     rw [wordsV_no ho] at wp
     simp (disch := omega) only [wk,tupled,↓reduceIte,reduceEqDiff,reduceEq,reduceAdd,reduceCtorEq,i16,i0,mt,h0,fa,fb,v1,v2,kp,List.getElem?_nil,fd,cellEq_ii,tn,runE_none tl,p2,p3,wp,mf]
     rw [ends_left_pan (caught_pan 1 _ _ _ _ _ _ _ (clear66 0 _ _ q0 rfl) (by rw [List.getElem?_set_ne (by decide)]; exact q1)),ec]
     simp (disch := omega) only [wk,tupled,↓reduceIte,reduceEqDiff,reduceEq,reduceAdd,reduceCtorEq,g0,g1,pz]
   rw [wordsV_ok ho] at wp
   have wl := wordsI_len ho
   have hr12 := hw.len
   have eq := fun H => equal_v (a := wordsI (decI w0 w1 w2 w3 r)) (b := w0 :: w1 :: w2 :: w3 :: r) (r1 := []) (r2 := rest) (H := H) (lendK_sl H 4 1 _ _ .ro) (lendK_sl H 4 1 _ _ u1) (by omega) (by simp [hr12]) (fun _ => rfl) (fun _ => rfl) rfl hw.hf rfl f1
   have l16 : (w0 :: w1 :: w2 :: w3 :: r).length = 16 := by simp [hr12]
   rw [wl,l16,wlit_eq,List.append_nil] at eq
   unfold wlit at eq
   by_cases he : wordsI (decI w0 w1 w2 w3 r) = w0 :: w1 :: w2 :: w3 :: r
   case neg =>
     have hg : ¬ goodI w0 w1 w2 w3 r := fun h => he h.2
     rw [if_neg hg] at ro
     rw [ro]
     rw [decide_eq_false he] at eq
     simp (disch := omega) only [wk,tupled,↓reduceIte,reduceEqDiff,reduceEq,reduceAdd,reduceCtorEq,i16,i0,mt,h0,fa,fb,v1,v2,kp,List.getElem?_nil,fd,cellEq_ii,tn,runE_none tl,p2,p3,wp,eq,mf]
     rw [ends_left_pan (caught_pan 1 _ _ _ _ _ _ _ (clear66 0 _ _ q0 rfl) (by rw [List.getElem?_set_ne (by decide)]; exact q1)),ec]
     simp (disch := omega) only [wk,tupled,↓reduceIte,reduceEqDiff,reduceEq,reduceAdd,reduceCtorEq,g0,g1,pz]
   have hg : goodI w0 w1 w2 w3 r := ⟨ho,he⟩
   rw [if_pos hg] at ro
   rw [ro]
   rw [decide_eq_true he] at eq
   simp (disch := omega) only [wk,tupled,↓reduceIte,reduceEqDiff,reduceEq,reduceAdd,reduceCtorEq,i16,i0,mt,h0,fa,fb,v1,v2,kp,List.getElem?_nil,fd,cellEq_ii,tn,runE_none tl,p2,p3,wp,eq,mo1,mo2,q0,q1,g2,List.append_nil]
   rw [ends_left_ret (caught_ret _ _ _ _)]
   simp (disch := omega) only [wk,tupled,↓reduceIte,reduceEqDiff,reduceEq,reduceAdd,reduceCtorEq,g0,g1,pd]
 . rw [if_neg hg] at ro
   rw [ro]
   obtain ⟨H2,p2,p4,p5⟩ := ht 2 Hd (by rw [hHd]; rfl)
   have q0 : H2[0]? = some (.cells [.int .i64 0,.int .i64 0,.int .i64 0,.sl 0 0 [] .z,.int .i64 0,.int .i64 0,.str ⟨#[]⟩]) := by rw [p5 0 (by decide) (by rw [hHd]; simp),hHd]; rfl
   have q1 : H2[1]? = some (.cells [.int .i64 0]) := by rw [p5 1 (by decide) (by rw [hHd]; simp),hHd]; rfl
   rw [hHd] at p2
   unfold wlit inoC nilm' at p2
   unfold wlit
   simp (disch := omega) only [wk,tupled,↓reduceIte,reduceEqDiff,reduceEq,reduceAdd,reduceCtorEq,i16,i0,mt,h0,fa,fb,v1,v2,kp,List.getElem?_nil,fd,cellEq_ii,tn,runE_none tl,p2]
   rw [ends_left_pan (caught_pan 1 _ _ _ _ _ _ _ (clear66 0 _ _ q0 rfl) (by rw [List.getElem?_set_ne (by decide)]; exact q1)),ec]
   have s0 : 0 < H2.length := (List.getElem?_eq_some_iff.1 q0).1
   have s1 : 1 < H2.length := (List.getElem?_eq_some_iff.1 q1).1
   have g0 : ∀ A B,((H2.set 0 A).set 1 B)[0]? = some A := fun A B => by rw [List.getElem?_set_ne (by decide),List.getElem?_set_self s0]
   have g1 : ∀ A B,((H2.set 0 A).set 1 B)[1]? = some B := fun A B => List.getElem?_set_self (by rw [List.length_set]; exact s1)
   simp (disch := omega) only [wk,tupled,↓reduceIte,reduceEqDiff,reduceEq,reduceAdd,reduceCtorEq,g0,g1,pz]
end Go.Proofs.YtogbblcnfcfflaaGreat
namespace Go.Proofs.YtogbblcnfcfflaaGreat
open Go Go.Am Go.Rec
structure Frm where
 b : Int
 i : Int
 r : Int
 t : Int
def frmA (f : Frm) : List AV := [.int .i64 f.b,.int .i64 f.i,.int .i64 f.r,.int .i64 f.t]
def okF (f : Frm) : Prop := 32 <= f.b /\ f.b <= 2048 /\ 4 <= f.i /\ f.i <= 256 /\ f.i % 4 = 0 /\ 4 <= f.r /\ f.r <= 1024 /\ f.r % 4 = 0 /\ 1 <= f.t /\ f.t <= 40 /\ 4 <= f.b - (9 + f.i / 4 + f.r / 4 + 1)
instance (f : Frm) : Decidable (okF f) := inferInstanceAs (Decidable (_ /\ _))
def layA (f : Frm) (k0 k1 : Int) : List AV := frmA f ++ [.int .u64 k0,.int .u64 k1,.int .i64 9,.int .i64 (9 + f.i / 4),.int .i64 (9 + f.i / 4 + f.r / 4),.int .i64 (9 + f.i / 4 + f.r / 4 + 1)]
def lyz : List AV := [.int .i64 0,.int .i64 0,.int .i64 0,.int .i64 0,.int .u64 0,.int .u64 0,.int .i64 0,.int .i64 0,.int .i64 0,.int .i64 0]
theorem lin_px (n lo hi : Int) (H : Heap) : pcx (cbL tab) 109 [.int .i64 n,.int .i64 lo,.int .i64 hi] H = some (.plain (.bool (decide (lo <= n /\ n <= hi)))) := by
 refine pcx_N rfl (pc_wp (fi := c109) rfl rfl (by simp [c109]) (by decide) ?_)
 unfold c109
 rw [List.map_cons,List.map_cons,List.map_cons,List.map_nil,lend_int,lend_int,lend_int]
 by_cases h1 : lo <= n <;> by_cases h2 : n <= hi <;> simp (disch := omega) only [wk,tupled,↓reduceIte,reduceEqDiff,reduceEq,reduceAdd,reduceCtorEq,h1,h2,purify,unownT,lend,unown,AV.hf,and_false,false_and]
theorem lof_px {f : Frm} (h : okF f) (k0 k1 : Int) (H : Heap) : pcx (cbL tab) 172 [.agg (frmA f),.agg [.int .u64 k0,.int .u64 k1]] H = some (.plain (.tup [.agg (layA f k0 k1),.int .i64 0])) := by
 refine pcx_N rfl (pc_wp (fi := c172) rfl rfl (by simp [c172]) (by decide) ?_)
 unfold c172
 have e1 : lend (.agg (frmA f)) = .agg (frmA f) := rfl
 have e2 : lend (.agg [.int .u64 k0,.int .u64 k1]) = .agg [.int .u64 k0,.int .u64 k1] := rfl
 rw [List.map_cons,List.map_cons,List.map_nil,e1,e2]
 obtain ⟨h1,h2,h3,h4,h5,h6,h7,h8,h9,h10,h11⟩ := h
 have p1 : decide (32 <= f.b /\ f.b <= 2048) = true := decide_eq_true ⟨h1,h2⟩
 have p2 : decide (4 <= f.i /\ f.i <= 256) = true := decide_eq_true ⟨h3,h4⟩
 have p3 : decide (4 <= f.r /\ f.r <= 1024) = true := decide_eq_true ⟨h6,h7⟩
 have p4 : decide (1 <= f.t /\ f.t <= 40) = true := decide_eq_true ⟨h9,h10⟩
 have q1 : 0 <= f.i := by omega
 have q2 : 0 <= f.r := by omega
 have i1 := fun H => lin_px f.b 32 2048 H
 have i2 := fun H => lin_px f.i 4 256 H
 have i3 := fun H => lin_px f.r 4 1024 H
 have i4 := fun H => lin_px f.t 1 40 H
 rw [p1] at i1
 rw [p2] at i2
 rw [p3] at i3
 rw [p4] at i4
 have c11 : ¬ f.b - (9 + f.i / 4 + f.r / 4 + 1) < 4 := by omega
 unfold layA frmA
 simp (disch := omega) only [wk,tupled,↓reduceIte,reduceEqDiff,reduceEq,reduceAdd,reduceCtorEq,i1,i2,i3,i4,h5,h8,c11,purify,unownT,lend,unown,AV.hf,hfL,List.cons_append,List.nil_append]
theorem lay_eql {xo yo : X} {a b c d e f g h i j : Int} : binV .eql (.struct [0,0,0,0,0,0,0,0,0,0]) xo yo (.agg [.int .i64 a,.int .i64 b,.int .i64 c,.int .i64 d,.int .u64 e,.int .u64 f,.int .i64 g,.int .i64 h,.int .i64 i,.int .i64 j]) (.agg [.int .i64 a,.int .i64 b,.int .i64 c,.int .i64 d,.int .u64 e,.int .u64 f,.int .i64 g,.int .i64 h,.int .i64 i,.int .i64 j]) = some (.bool true) := by
 have ke : ∀ a : Int,cellEq 0 (.int .i64 a) (.int .i64 a) = some true := fun a => by show some (a == a) = _; rw [beq_self_eq_true]
 have ku : ∀ a : Int,cellEq 0 (.int .u64 a) (.int .u64 a) = some true := fun a => by show some (a == a) = _; rw [beq_self_eq_true]
 show (cellsEq _ _ _).map _ = _
 simp only [cellsEq,ke,ku]
 rfl
theorem lright_px {f : Frm} (h : okF f) (k0 k1 : Int) (H : Heap) : pcx (cbL tab) 107 [.agg (layA f k0 k1)] H = some (.plain (.bool true)) := by
 refine pcx_N rfl (pc_wp (fi := c107) rfl rfl (by simp [c107]) (by decide) ?_)
 unfold c107
 have e1 : lend (.agg (layA f k0 k1)) = .agg (layA f k0 k1) := rfl
 rw [List.map_cons,List.map_nil,e1]
 have lo := fun H => lof_px h k0 k1 H
 unfold layA frmA at lo ⊢
 simp only [List.cons_append,List.nil_append] at lo ⊢
 simp (disch := omega) only [wk,tupled,↓reduceIte,reduceEqDiff,reduceEq,reduceAdd,reduceCtorEq,lo,lay_eql,purify,unownT,lend,unown,AV.hf,hfL]
def xorI (a b : Int) : Int := ((a.toNat ^^^ b.toNat : Nat) : Int)
theorem xorI_ok {a b : Int} (ha : a < 18446744073709551616) (hb : b < 18446744073709551616) : 0 <= xorI a b /\ xorI a b < 18446744073709551616 := by
 have h1 : a.toNat < 2 ^ 64 := by omega
 have h2 : b.toNat < 2 ^ 64 := by omega
 have := Nat.xor_lt_two_pow h1 h2
 unfold xorI
 omega
theorem u64_xor {xo yo : X} {ek : EqK} {a b : Int} (h0 : 0 <= a) (h1 : a < 18446744073709551616) (h2 : 0 <= b) (h3 : b < 18446744073709551616) : binV .xor ek xo yo (.int .u64 a) (.int .u64 b) = some (.int .u64 (xorI a b)) := by
 obtain ⟨a,rfl⟩ := Int.eq_ofNat_of_zero_le h0
 obtain ⟨b,rfl⟩ := Int.eq_ofNat_of_zero_le h2
 have hx := xorI_ok h1 h3
 have e : binV .xor ek xo yo (.int .u64 (a : Int)) (.int .u64 (b : Int)) = some (.int .u64 (IntKind.u64.wrap (BitVec.ofInt IntKind.u64.bits (a : Int) ^^^ BitVec.ofInt IntKind.u64.bits (b : Int)).toNat)) := rfl
 rw [e,ofInt_nat,ofInt_nat]
 have h4 : (BitVec.ofNat 64 a ^^^ BitVec.ofNat 64 b).toNat = a ^^^ b := by
   rw [BitVec.toNat_xor,BitVec.toNat_ofNat,BitVec.toNat_ofNat]
   show a % 18446744073709551616 ^^^ b % 18446744073709551616 = _
   rw [Nat.mod_eq_of_lt (by omega),Nat.mod_eq_of_lt (by omega)]
 show some (AV.int .u64 (IntKind.u64.wrap (BitVec.ofNat 64 a ^^^ BitVec.ofNat 64 b).toNat)) = _
 rw [h4]
 have e2 : xorI (a : Int) (b : Int) = ((a ^^^ b : Nat) : Int) := rfl
 rw [e2] at hx ⊢
 rw [wrap_u64 hx.1 hx.2]
theorem u64_not {a : Int} (h0 : 0 <= a) (h1 : a < 18446744073709551616) : unV .xor (.int .u64 a) = some (.int .u64 (xorI 18446744073709551615 a)) :=
 u64_xor (xo := .t 0) (yo := .t 0) (ek := .num) (by decide) (by decide) h0 h1
def polyI : Int := 14514072000185962306
def stepM (r : Int) : Int := if r % 2 = 1 then xorI (r / 2) polyI else r / 2
def U64 (a : Int) : Prop := 0 <= a /\ a < 18446744073709551616
theorem U64.x {a b : Int} (ha : U64 a) (hb : U64 b) : U64 (xorI a b) := xorI_ok ha.2 hb.2
theorem stepM_ok {r : Int} (h : U64 r) : U64 (stepM r) := by
 unfold stepM
 have h2 : U64 (r / 2) := ⟨by have := h.1; omega,by have := h.2; have := h.1; omega⟩
 split
 . exact h2.x ⟨by decide,by decide⟩
 . exact h2
theorem and1 {r : Int} (h : U64 r) {xo yo : X} {ek : EqK} : binV .and ek xo yo (.int .u64 r) (.int .u64 1) = some (.int .u64 (r % 2)) := by
 obtain ⟨a,rfl⟩ := Int.eq_ofNat_of_zero_le h.1
 have := u64_and (xo := xo) (yo := yo) (ek := ek) (a := a) (b := 1) (by have := h.2; omega)
 rw [show (1 : Nat) % 18446744073709551616 = 1 from rfl,Nat.and_one_is_mod] at this
 exact this
theorem in_step1 {args : List AV} {H : Heap} : pcx (cbL tab) 307 args H = none := pcx_none rfl (pc_none (fi := c307) rfl rfl)
theorem ll_step1 : (cbL tab).lent 307 = false := rfl
theorem step1_ic {H : Heap} {a : Nat} {r : Int} (hr : U64 r) (h : H[a]? = some (.cells [.int .u64 r])) : (cbL tab).ic 307 [.ptr a 0] H = some (.ret (.bool (decide (r % 2 = 1))),H) := by
 have : ∃ o H',(cbL tab).ic 307 [.ptr a 0] H = some (o,H') /\ o = .ret (.bool (decide (r % 2 = 1))) /\ H' = H := by
   refine ic_wp (fi := c307) rfl rfl (by simp [c307]) (by decide) ?_
   unfold c307
   have a1 := fun xo yo ek => and1 (xo := xo) (yo := yo) (ek := ek) hr
   simp (disch := omega) only [wk,tupled,↓reduceIte,reduceEqDiff,reduceEq,reduceAdd,reduceCtorEq,h,a1]
 obtain ⟨o,H',h,rfl,rfl⟩ := this
 exact h
theorem step_px {r : Int} (hr : U64 r) (H : Heap) : pcx (cbL tab) 306 [.int .u64 r] H = some (.plain (.int .u64 (stepM r))) := by
 refine pcx_N rfl (pc_wp (fi := c306) rfl rfl (by simp [c306]) (by decide) ?_)
 unfold c306
 rw [List.map_cons,List.map_nil,lend_int]
 have s1 : (cbL tab).ic 307 [.ptr 0 0] [.cells [.int .u64 r]] = _ := step1_ic (H := [.cells [.int .u64 r]]) (a := 0) hr rfl
 have sh : ∀ {xo yo : X} {ek : EqK},binV .shr ek xo yo (.int .u64 r) (.int .u64 1) = some (.int .u64 (r / 2)) := fun {xo yo ek} => u64_shr (by decide) (by decide)
 have hr2 : U64 (r / 2) := ⟨by have := hr.1; omega,by have := hr.2; have := hr.1; omega⟩
 have xp : ∀ {xo yo : X} {ek : EqK},binV .xor ek xo yo (.int .u64 (r / 2)) (.int .u64 14514072000185962306) = some (.int .u64 (xorI (r / 2) polyI)) := fun {xo yo ek} => u64_xor hr2.1 hr2.2 (by decide) (by decide)
 unfold stepM
 by_cases h : r % 2 = 1
 . rw [if_pos h]
   simp (disch := omega) only [wk,tupled,↓reduceIte,reduceEqDiff,reduceEq,reduceAdd,reduceCtorEq,s1,h,sh,xp,in_step1,runE_none ll_step1,purify,unownT,lend,unown,AV.hf,hfL]
 . rw [if_neg h]
   simp (disch := omega) only [wk,tupled,↓reduceIte,reduceEqDiff,reduceEq,reduceAdd,reduceCtorEq,s1,h,sh,xp,in_step1,runE_none ll_step1,purify,unownT,lend,unown,AV.hf,hfL]
def itM : Nat -> Int -> Int
 | 0,r => r
 | k + 1,r => itM k (stepM r)
theorem itM_ok : ∀ (k : Nat) {r : Int},U64 r -> U64 (itM k r)
 | 0,_,h => h
 | k + 1,_,h => itM_ok k (stepM_ok h)
def intoM (r : Int) (b : UInt8) : Int := itM 8 (xorI r b.toNat)
theorem by_u64 (b : UInt8) : U64 (b.toNat : Int) := ⟨by omega,by have := b.toNat_lt; omega⟩
theorem intoM_ok {r : Int} (h : U64 r) (b : UInt8) : U64 (intoM r b) := itM_ok 8 (h.x (by_u64 b))
theorem into_px {r : Int} (hr : U64 r) (b : UInt8) (H : Heap) : pcx (cbL tab) 302 [.int .u64 r,.int .u8 b.toNat] H = some (.plain (.int .u64 (intoM r b))) := by
 refine pcx_N rfl (pc_wp (fi := c302) rfl rfl (by simp [c302]) (by decide) ?_)
 unfold c302
 rw [List.map_cons,List.map_cons,List.map_nil,lend_int,lend_int]
 have hb := by_u64 b
 have xp : ∀ {xo yo : X} {ek : EqK},binV .xor ek xo yo (.int .u64 r) (.int .u64 (b.toNat : Nat)) = some (.int .u64 (xorI r b.toNat)) := fun {xo yo ek} => u64_xor hr.1 hr.2 hb.1 hb.2
 have wr : IntKind.u64.wrap (b.toNat : Int) = (b.toNat : Int) := wrap_u64 hb.1 hb.2
 simp (disch := omega) only [wk,tupled,↓reduceIte,reduceEqDiff,reduceEq,reduceAdd,reduceCtorEq,xp,wr]
 have hx := hr.x hb
 refine loop_ind (fun (x : Nat × Int) E df H => x.1 <= 8 /\ U64 x.2 /\ intoM r b = itM (8 - x.1) x.2 /\ E 0 = .int .u64 x.2 /\ E 9 = .int .i64 (x.1 : Nat) /\ df = [])
   (fun x => 8 - x.1) (0,xorI r b.toNat) (by decide) (.inl rfl) ⟨by omega,hx,rfl,rfl,rfl,rfl⟩ ?_
 intro ⟨j,q⟩ E df H ih hP
 obtain ⟨a1,a2,a3,E0,E9,hdf⟩ := hP
 dsimp only at a1 a2 a3 E0 E9
 subst hdf
 have st := fun H => step_px a2 H
 by_cases hj : j < 8
 . have n1 : (j : Int) < 8 := by omega
   simp (disch := omega) only [wk,tupled,↓reduceIte,reduceEqDiff,reduceEq,reduceAdd,reduceCtorEq,E0,E9,n1,st]
   refine ih (j + 1,stepM q) _ _ _ (by dsimp only; omega) ⟨by dsimp only; omega,stepM_ok a2, ?_,by simp only [en,↓reduceIte,reduceEqDiff],by simp only [en,↓reduceIte,reduceEqDiff],rfl⟩
   dsimp only
   rw [a3,show 8 - j = (8 - (j + 1)) + 1 by omega]
   rfl
 . obtain rfl : j = 8 := by omega
   rw [a3]
   have e : itM (8 - 8) q = q := rfl
   rw [e]
   have n1 : ¬ ((8 : Nat) : Int) < 8 := by omega
   simp (disch := omega) only [wk,tupled,↓reduceIte,reduceEqDiff,reduceEq,reduceAdd,reduceCtorEq,E0,E9,n1,purify,unownT,lend,unown,AV.hf,hfL]
def mvAs : ACode := (.region [⟨(.some 6),(.mv (.t 11)),.none⟩])
def mvBd : ACode := (.block 1 (.region [⟨(.some 12),(.load 1 false (.t 5)),.none⟩,⟨(.some 13),(.mv (.t 6)),.none⟩,⟨(.some 14),(.callf 302 [(.t 12),(.t 13)]),.none⟩,⟨.none,(.store 1 (.t 5) (.t 14)),.none⟩]))
theorem in_Val {args : List AV} {H : Heap} : pcx (cbL tab) 301 args H = none := pcx_none rfl (pc_none (fi := c301) rfl rfl)
theorem ll_Val : (cbL tab).lent 301 = false := rfl
theorem val_ic (l : List UInt8) (tk : Tk) (H : Heap) : (cbL tab).ic 301 [.sl 1 l.length (encs byA l) tk] H = some (.ret (.fn 305 [.ptr H.length 0]),H ++ [.cells [.sl 1 l.length (encs byA l) tk]]) := by
 have : ∃ o H',(cbL tab).ic 301 [.sl 1 l.length (encs byA l) tk] H = some (o,H') /\ o = .ret (.fn 305 [.ptr H.length 0]) /\ H' = H ++ [.cells [.sl 1 l.length (encs byA l) tk]] := by
   refine ic_wp (fi := c301) rfl rfl (by simp [c301]) (by decide) ?_
   unfold c301
   simp (disch := omega) only [wk,tupled,↓reduceIte,reduceEqDiff,reduceEq,reduceAdd,reduceCtorEq]
 obtain ⟨o,H',h,rfl,rfl⟩ := this
 exact h
theorem val1_ic (R : Nat -> Heap -> Prop) (id k : Nat) (L : List UInt8) (hL : L.length <= 100000) (tk : Tk)
   (hstep : ∀ (H : Heap) (j : Nat) (x : UInt8),L[j]? = some x -> R j H -> ∃ H',(cbL tab).yl id [.int .u8 (x.toNat : Nat)] H = some (.ret (.bool true),H') /\ R (j + 1) H')
   (H : Heap) (hR : R 0 H) (ha : H[k]? = some (.cells [.sl 1 L.length (encs byA L) tk])) :
   ∃ o H',(cbL tab).ic 305 [.yld id,.ptr k 0] H = some (o,H') /\ o = .ret (.tup []) /\ R L.length H' := by
 refine ic_wp (fi := c305) rfl rfl (by simp [c305]) (by decide) ?_
 unfold c305
 simp (disch := omega) only [wk,tupled,↓reduceIte,reduceEqDiff,reduceEq,reduceAdd,reduceCtorEq,ha]
 refine loop_ind (fun (x : List UInt8 × List UInt8) E df H => L = x.1 ++ x.2 /\ E 0 = .yld id /\ E 5 = .sl 1 L.length (encs byA L) tk /\ E 6 = .int .i64 (L.length : Nat) /\ E 7 = .int .i64 (x.1.length : Nat) /\ df = [] /\ R x.1.length H)
   (fun x => x.2.length) ([],L) (by decide) (.inl rfl) ⟨rfl,rfl,rfl,rfl,rfl,rfl,hR⟩ ?_
 intro ⟨pre,suf⟩ F df H1 ih hP
 obtain ⟨a1,F0,F5,F6,F7,hdf,hR1⟩ := hP
 dsimp only at a1 F7 hR1
 subst hdf
 have la : L.length = pre.length + suf.length := by rw [a1,List.length_append]
 cases suf with
 | nil =>
   have n1 : ¬ (pre.length : Int) < (L.length : Int) := by simp at la; omega
   have e : pre.length = L.length := by simp at la; omega
   rw [e] at hR1
   simp (disch := omega) only [wk,tupled,↓reduceIte,reduceEqDiff,reduceEq,reduceAdd,reduceCtorEq,F0,F5,F6,F7,n1]
   exact hR1
 | cons x r =>
   simp only [List.length_cons] at la
   have d1 : List.drop pre.length (encs byA L) = .int .u8 (x.toNat : Nat) :: encs byA r := by
     have := tdrop pre x r
     rw [Nat.mul_one] at this
     rw [a1,this]
   have n1 : (pre.length : Int) < (L.length : Int) := by omega
   obtain ⟨H2,y1,y2⟩ := hstep H1 pre.length x (by rw [a1,List.getElem?_append_right (Nat.le_refl _),Nat.sub_self]; rfl) hR1
   simp (disch := omega) only [wk,tupled,↓reduceIte,reduceEqDiff,reduceEq,reduceAdd,reduceCtorEq,F0,F5,F6,F7,n1,d1,y1,Bool.not_true]
   refine ih (pre ++ [x],r) _ _ _ (by simp) ?_
   exact ⟨by simp [a1],by simp only [en,↓reduceIte,reduceEqDiff,F0],by simp only [en,↓reduceIte,reduceEqDiff,F5],by simp only [en,↓reduceIte,reduceEqDiff,F6],by simp only [en,↓reduceIte,reduceEqDiff],rfl,by dsimp only; rw [List.length_append]; exact y2⟩
def foldM (l : List UInt8) (r : Int) : Int := l.foldl intoM r
theorem foldM_ok : ∀ (l : List UInt8) {r : Int},U64 r -> U64 (foldM l r)
 | [],_,h => h
 | b :: l,_,h => foldM_ok l (intoM_ok h b)
theorem foldM_take {l : List UInt8} {j : Nat} {x : UInt8} (h : l[j]? = some x) (r : Int) : foldM (l.take (j + 1)) r = intoM (foldM (l.take j) r) x := by
 rw [List.take_add_one,h]
 unfold foldM
 rw [List.foldl_append]
 rfl
structure MvR (k id : Nat) (L : List UInt8) (r0 : Int) (H1 : Heap) (j : Nat) (H : Heap) : Prop where
 own : H[k]? = some (.cells [.int .u64 (foldM (L.take j) r0)])
 keep : ∀ (i : Nat) (o : AObj),i ≠ k -> H1[i]? = some o -> H[i]? = some o
theorem mv_round {k id : Nat} {tm : List AV} {L : List UInt8} {r0 : Int} (hr0 : U64 r0) {H1 : Heap} {E : Env} (ha : Ag 17 tm E) (E5 : E 5 = .ptr k 0) (hki : k ≠ id) (hlo : H1[id]? = some (.loop 0 .normal tm [11] mvAs mvBd))
   (j : Nat) (x : UInt8) (hx : L[j]? = some x) (H : Heap) (hR : MvR k id L r0 H1 j H) :
   ∃ H',(cbL tab).yl id [.int .u8 (x.toNat : Nat)] H = some (.ret (.bool true),H') /\ MvR k id L r0 H1 (j + 1) H' := by
 obtain ⟨hv,hkeep⟩ := hR
 have hloH := hkeep id _ (fun e => hki e.symm) hlo
 have ip := fun H => into_px (foldM_ok (L.take j) hr0) x H
 have key := yl_wp (tab := tab) (id := id) (P := fun b H' => b = true /\ MvR k id L r0 H1 (j + 1) H') (args := [.int .u8 (x.toNat : Nat)]) (H := H) (readLoop_of hloH) ha rfl (by decide) (by decide) (by decide) (by decide) (by decide) ?_
 . obtain ⟨b,H',k1,rfl,k2⟩ := key
   exact ⟨H',k1,k2⟩
 unfold mvAs
 simp (disch := omega) only [wk,tupled,↓reduceIte,reduceEqDiff,reduceEq,reduceAdd,reduceCtorEq,updPs_cons,updPs_nil]
 refine ⟨rfl,rfl,_,_,_,_,_,readLoop_of hloH, ?_⟩
 unfold mvBd
 have kk : ∀ o,(H.set id o)[k]? = some (.cells [.int .u64 (foldM (L.take j) r0)]) := fun o => by rw [List.getElem?_set_ne (fun e => hki e.symm)]; exact hv
 rw [<- foldM_take hx] at ip
 simp (disch := omega) only [wk,tupled,↓reduceIte,reduceEqDiff,reduceEq,reduceAdd,reduceCtorEq,E5,kk,ip]
 have i2 : ∀ o o',((H.set id o).set k o')[id]? = some o := fun o o' => by rw [List.getElem?_set_ne hki,List.getElem?_set_self (List.getElem?_eq_some_iff.1 hloH).1]
 refine ⟨rfl,_,_,_,_,_,_,readLoop_of (i2 _ _),rfl, ?_, ?_⟩
 . rw [List.getElem?_set_ne (fun e => hki e.symm),List.getElem?_set_self]
   rw [List.length_set]
   exact (List.getElem?_eq_some_iff.1 hv).1
 . intro i o hi ho'
   by_cases hii : i = id
   . subst hii
     rw [hlo] at ho'
     cases ho'
     rw [List.getElem?_set_self (by simpa using (List.getElem?_eq_some_iff.1 hloH).1)]
     rfl
   . rw [List.getElem?_set_ne (fun e => hii e.symm),List.getElem?_set_ne (fun e => hi e.symm),List.getElem?_set_ne (fun e => hii e.symm)]
     exact hkeep i o hi ho'
def ones : Int := 18446744073709551615
def moreM (s : Int) (l : List UInt8) : Int := xorI ones (foldM l (xorI ones s))
theorem ones_ok : U64 ones := ⟨by decide,by decide⟩
theorem more_px {s : Int} (hs : U64 s) (l : List UInt8) (hl : l.length <= 100000) (tk : Tk) (H : Heap) : pcx (cbL tab) 291 [.int .u64 s,.sl 1 l.length (encs byA l) tk] H = some (.plain (.int .u64 (moreM s l))) := by
 obtain ⟨u1,e1,f1⟩ := lend_sl 1 l.length (encs byA l) tk
 have hfb : hfL (encs byA l) = true := hfL_encs (fun _ => rfl) l
 refine pcx_N rfl (pc_wp (fi := c291) rfl ?_ (by simp [c291]) (by decide) ?_)
 . simp only [pcOn,List.map_cons,List.map_nil,hfL,hf_lend_sl,hf_lend_int,hf_lend_bool,hf_lend_str,hfL_append,Bool.and_self,Bool.and_true,Bool.true_and,c291,hfb]
 unfold c291
 rw [List.map_cons,List.map_cons,List.map_nil,e1,lend_int]
 have un := u64_not hs.1 hs.2
 have vi : (cbL tab).ic 301 [.sl 1 l.length (encs byA l) u1] [.cells [.int .u64 (xorI ones s)]] = _ := val_ic l u1 [.cells [.int .u64 (xorI ones s)]]
 have un' : unV .xor (.int .u64 s) = some (.int .u64 (xorI ones s)) := un
 have hr0 := ones_ok.x hs
 simp (disch := omega) only [wk,tupled,↓reduceIte,reduceEqDiff,reduceEq,reduceAdd,reduceCtorEq,un',vi,in_Val,runE_none ll_Val]
 refine ret_range (f := 305) (caps := [.ptr 1 0]) (by simp only [en,↓reduceIte,reduceEqDiff,evE_t]) (fun tm ha => ?_)
 obtain ⟨o,H2,q1,rfl,hR⟩ := val1_ic (fun j H => MvR 0 3 l (xorI ones s) [.cells [.int .u64 (xorI ones s)],.cells [.sl 1 l.length (encs byA l) u1],.defd,.loop 0 .normal tm [11] mvAs mvBd] j H) 3 1 l hl u1
   (fun H j x hx hR => mv_round hr0 ha (by simp only [en,↓reduceIte,reduceEqDiff]) (by decide) rfl j x hx H hR)
   [.cells [.int .u64 (xorI ones s)],.cells [.sl 1 l.length (encs byA l) u1],.defd,.loop 0 .normal tm [11] mvAs mvBd] ⟨rfl,fun _ _ _ h => h⟩ rfl
 obtain ⟨hv,hkeep⟩ := hR
 have l2 := hkeep 3 _ (by decide) rfl
 have d2 := hkeep 2 _ (by decide) rfl
 refine ⟨_,H2,_,_,_,_,_,_,q1,readLoop_of l2,by decide,rfl, ?_⟩
 change Ret _ _ _ _ _ _ _ _ (H2.set 3 (.loop 3 .normal tm [11] mvAs mvBd))
 rw [List.take_of_length_le (Nat.le_refl _)] at hv
 have v3 : (H2.set 3 (.loop 3 .normal tm [11] mvAs mvBd))[0]? = some (.cells [.int .u64 (foldM l (xorI ones s))]) := by rw [List.getElem?_set_ne (by decide)]; exact hv
 have d3 : (H2.set 3 (.loop 3 .normal tm [11] mvAs mvBd))[2]? = some .defd := by rw [List.getElem?_set_ne (by decide)]; exact d2
 have fo := foldM_ok l hr0
 have un2 : unV .xor (.int .u64 (foldM l (xorI ones s))) = some (.int .u64 (moreM s l)) := u64_not fo.1 fo.2
 simp (disch := omega) only [wk,tupled,↓reduceIte,reduceEqDiff,reduceEq,reduceAdd,reduceCtorEq,v3,un2]
 rw [ends_mark d3]
 simp (disch := omega) only [wk,tupled,↓reduceIte,reduceEqDiff,reduceEq,reduceAdd,reduceCtorEq,purify,unownT,lend,unown,AV.hf,hfL]
theorem sum_px (l : List UInt8) (hl : l.length <= 100000) (tk : Tk) (H : Heap) : pcx (cbL tab) 283 [.sl 1 l.length (encs byA l) tk] H = some (.plain (.int .u64 (moreM 0 l))) := by
 obtain ⟨u1,e1,f1⟩ := lend_sl 1 l.length (encs byA l) tk
 have hfb : hfL (encs byA l) = true := hfL_encs (fun _ => rfl) l
 refine pcx_N rfl (pc_wp (fi := c283) rfl ?_ (by simp [c283]) (by decide) ?_)
 . simp only [pcOn,List.map_cons,List.map_nil,hfL,hf_lend_sl,hf_lend_int,hf_lend_bool,hf_lend_str,hfL_append,Bool.and_self,Bool.and_true,Bool.true_and,c283,hfb]
 unfold c283
 rw [List.map_cons,List.map_nil,e1]
 have mp := fun H => more_px (s := 0) ⟨by decide,by decide⟩ l hl u1 H
 simp (disch := omega) only [wk,tupled,↓reduceIte,reduceEqDiff,reduceEq,reduceAdd,reduceCtorEq,mp,purify,unownT,lend,unown,AV.hf,hfL]
theorem repL_u64 (m : Nat) : repL m [AV.int .u64 0] = encs u64A (List.replicate m 0) := by
 induction m with
 | zero => rfl
 | succ m ih => rw [repL,ih,List.replicate_succ,encs_cons]; rfl
theorem appz_row (l : List Int) (g : Nat) (H : Heap) (hl : l.length <= 64) (hg : H[g]? = some (.tok 1)) (h0 : l ≠ []) :
   ∃ v' H',appzV 1 8 [.int .u64 0] (.sl 1 l.length (encs u64A l) (.own g)) (.int .i64 (64 - (l.length : Int))) H = some (.val v',H') /\ Own H' 1 v' (l ++ List.replicate (64 - l.length) 0).length (encs u64A (l ++ List.replicate (64 - l.length) 0)) /\ (∀ s n c,v' ≠ .sl s n c .e) := by
 have hp : l.length ≠ 0 := fun h => h0 (List.length_eq_zero_iff.1 h)
 have hm : madeN 1 8 [.int .u64 0] (.int .i64 (64 - (l.length : Int))) (.int .i64 (64 - (l.length : Int))) = some (64 - l.length) := by
   have e : (64 - (l.length : Int)).toNat = 64 - l.length := by omega
   simp only [madeN,e]
   rw [if_pos ⟨trivial,by omega,rfl,rfl,by omega,by omega⟩]
 by_cases hm0 : 64 - l.length = 0
 . refine ⟨.sl 1 l.length (encs u64A l) (.own g),H, ?_, ?_,by intro s n c h; cases h⟩
   . simp only [appzV,hm,hm0,appV]
     have h1 : l.length * 8 <= 70368744177664 := by omega
     simp [h1]
     omega
   . rw [hm0,List.replicate_zero,List.append_nil]
     exact .inr ⟨hp,g,rfl,hg⟩
 . refine ⟨.sl 1 (l.length + (64 - l.length)) (encs u64A l ++ repL (64 - l.length) [.int .u64 0]) (.own H.length),H.set g .dead ++ [.tok 1], ?_, ?_,by intro s n c h; cases h⟩
   . simp only [appzV,hm,appV,repL_u64]
     have h1 : (l.length + (64 - l.length)) * 8 <= 70368744177664 := by omega
     have h2 : l.length + (64 - l.length) <= 70368744177664 := by omega
     have h3 : (64 - l.length) * 1 <= (encs u64A (List.replicate (64 - l.length) 0)).length := by rw [lenU,List.length_replicate]; omega
     have h4 : (encs u64A (List.replicate (64 - l.length) 0)).take ((64 - l.length) * 1) = encs u64A (List.replicate (64 - l.length) 0) := List.take_of_length_le (by rw [lenU,List.length_replicate]; omega)
     simp only [hm0,h1,h2,h3,h4,one_u64A,hg,Nat.one_pos,and_self,if_true,if_false,true_and,and_true]
   . rw [repL_u64,<- encs_append,List.length_append,List.length_replicate]
     refine .inr ⟨by omega,H.length,rfl, ?_⟩
     rw [List.getElem?_append_right (by simp)]
     simp
theorem padded_ic (l : List Int) (g : Nat) (H : Heap) (hl : l.length <= 64) (hg : H[g]? = some (.tok 1)) (h0 : l ≠ []) :
   pcx (cbL tab) 225 [.sl 1 l.length (encs u64A l) (.own g)] H = none /\ ∃ v' H',(cbL tab).ic 225 [.sl 1 l.length (encs u64A l) (.own g)] H = some (.ret v',H') /\ Own H' 1 v' (l ++ List.replicate (64 - l.length) 0).length (encs u64A (l ++ List.replicate (64 - l.length) 0)) /\ (∀ s n c,v' ≠ .sl s n c .e) := by
 have hon : pcOn c225 [.sl 1 l.length (encs u64A l) (.own g)] = false := by
   simp [pcOn,c225,hfL,AV.hf,Tk.hf]
 refine ⟨pcx_none rfl (pc_none (fi := c225) rfl hon), ?_⟩
 have : ∃ o H',(cbL tab).ic 225 [.sl 1 l.length (encs u64A l) (.own g)] H = some (o,H') /\ ∃ v',o = .ret v' /\ Own H' 1 v' (l ++ List.replicate (64 - l.length) 0).length (encs u64A (l ++ List.replicate (64 - l.length) 0)) /\ (∀ s n c,v' ≠ .sl s n c .e) := by
   refine ic_wp (fi := c225) rfl hon (by simp [c225]) (by decide) ?_
   unfold c225
   obtain ⟨v',H',h1,h2,h3⟩ := appz_row l g H hl hg h0
   simp (disch := omega) only [wk,tupled,↓reduceIte,reduceEqDiff,reduceEq,reduceAdd,reduceCtorEq,h1]
   exact ⟨_,rfl,by rw [<- List.length_append]; exact h2,h3⟩
 obtain ⟨o,H',h1,v',rfl,h2,h3⟩ := this
 exact ⟨v',H',h1,h2,h3⟩
theorem lpad : (cbL tab).lent 225 = false := rfl
theorem bytM_ne {l : List Int} (h : l ≠ []) : bytM l ≠ [] := by
 cases l with
 | nil => exact absurd rfl h
 | cons w r => intro e; have := congrArg List.length e; simp [bytM,bytN] at this
theorem wsum_px {l : List Int} (h0 : l ≠ []) (hl : l.length <= 100) (hb : (bytM l).length <= 100000) (hw : ∀ w ∈ l,U64 w) (tk : Tk) (H : Heap) : pcx (cbL tab) 272 [.sl 1 l.length (encs u64A l) tk] H = some (.plain (.int .u64 (moreM 0 (bytM l)))) := by
 obtain ⟨u1,e1,f1⟩ := lend_sl 1 l.length (encs u64A l) tk
 have hfu : hfL (encs u64A l) = true := hfL_encs (fun _ => rfl) l
 refine pcx_N rfl (pc_wp (fi := c272) rfl ?_ (by simp [c272]) (by decide) ?_)
 . simp only [pcOn,List.map_cons,List.map_nil,hfL,hf_lend_sl,hf_lend_int,hf_lend_bool,hf_lend_str,hfL_append,Bool.and_self,Bool.and_true,Bool.true_and,c272,hfu]
 unfold c272
 rw [List.map_cons,List.map_nil,e1]
 have bp := fun H => bytes_v (l := l) (rest := []) (H := H) (v := .sl 1 l.length (encs u64A l ++ []) u1) (lendK_sl H 4 1 _ _ u1) hl rfl rfl hw f1
 rw [List.append_nil,prRow_ne (bytM_ne h0)] at bp
 have sp := fun g H => sum_px (bytM l) hb (.own g) H
 simp (disch := omega) only [wk,tupled,↓reduceIte,reduceEqDiff,reduceEq,reduceAdd,reduceCtorEq,bp,sp,purify,unownT,lend,unown,AV.hf,hfL]
theorem rzU {xo yo : X} {s n : Nat} {cs : List AV} : binV .eql .slice xo yo (.sl s n cs .ro) (.sl 0 0 [] .z) = some (.bool false) := rfl
theorem pcx_Lfr {cb : CB} {H : Heap} {f : FuncId} {args args' : List AV} {sz n : Nat} {cs : List AV} (hl : cb.lent f = true) (hid : args.map (lendK H 4) = args') (h : cb.pc f args' = some (.fresh sz n cs)) (hs : cs.all (·.scal) = true) : pcx cb f args H = some (.fresh sz n cs) := by
 unfold pcx
 rw [if_pos hl,enterL,hid,h]
 simp only [hs,if_true]
theorem scalU : ∀ l : List Int,(encs u64A l).all (·.scal) = true
 | [] => rfl
 | x :: r => by rw [encs_cons,List.all_append,scalU r]; rfl
theorem cloneU_px {l : List Int} (h0 : l ≠ []) (hl : l.length <= 1000) {tk : Tk} (ht : tk = .ro ∨ ∃ g,tk = .own g) (H : Heap) : pcx (cbL tab) 37 [.sl 1 l.length (encs u64A l) tk] H = some (.fresh 1 l.length (encs u64A l)) := by
 have el : lend (.sl 1 l.length (encs u64A l) tk) = .sl 1 l.length (encs u64A l) .ro := by rcases ht with rfl | ⟨g,rfl⟩ <;> rfl
 have hfu : hfL (encs u64A l) = true := hfL_encs (fun _ => rfl) l
 have n0 : l.length ≠ 0 := fun e => h0 (List.eq_nil_of_length_eq_zero e)
 refine pcx_Lfr rfl (by rw [List.map_cons,List.map_nil,lendK_sl]) (pc_wp (fi := c37) rfl ?_ (by simp [c37]) (by decide) ?_) (scalU l)
 . show hfL [lend _] = true
   rw [el]
   simp [hfL,AV.hf,hfu,Tk.hf]
 unfold c37
 rw [List.map_cons,List.map_nil,el]
 have own0 : Own ([] : Heap) 1 (.sl 1 0 [] .e) 0 [] := .inl ⟨.inr rfl,rfl,rfl⟩
 simp (disch := omega) only [wk,tupled,↓reduceIte,reduceEqDiff,reduceEq,reduceAdd,reduceCtorEq,rzU]
 refine runX_app own0 (by omega) (by omega) (by omega) n0 (by rw [lenU]; omega) (one_u64A _) (fun H2 q1 q2 q3 => ?_)
 simp only [Nat.zero_add,List.nil_append] at q1 ⊢
 simp (disch := omega) only [wk,tupled,↓reduceIte,reduceEqDiff,reduceEq,reduceAdd,reduceCtorEq]
 rw [<- prRow_ne (f := u64A) (sz := 1) h0]
 exact purify_row (fun _ => rfl) q1 (fun e => absurd e h0)
def sealM (l : List Int) : List Int := l ++ [moreM 0 (bytM l)]
theorem seal_px {l : List Int} (h0 : l ≠ []) (hl : l.length <= 100) (hb : (bytM l).length <= 100000) (hw : ∀ w ∈ l,U64 w) {tk : Tk} (ht : tk = .ro ∨ ∃ g,tk = .own g) (H : Heap) :
   pcx (cbL tab) 226 [.sl 1 l.length (encs u64A l) tk] H = some (.fresh 1 (sealM l).length (encs u64A (sealM l))) := by
 have el : lend (.sl 1 l.length (encs u64A l) tk) = .sl 1 l.length (encs u64A l) .ro := by rcases ht with rfl | ⟨g,rfl⟩ <;> rfl
 have hfu : hfL (encs u64A l) = true := hfL_encs (fun _ => rfl) l
 have n0 : l.length ≠ 0 := fun e => h0 (List.eq_nil_of_length_eq_zero e)
 refine pcx_N rfl (pc_wp (fi := c226) rfl ?_ (by simp [c226]) (by decide) ?_)
 . show hfL [lend _] = true
   rw [el]
   simp [hfL,AV.hf,hfu,Tk.hf]
 unfold c226
 rw [List.map_cons,List.map_nil,el]
 have cp := fun H => cloneU_px h0 (by omega) (tk := .ro) (.inl rfl) H
 have wp := fun H => wsum_px h0 hl hb hw .ro H
 simp (disch := omega) only [wk,tupled,↓reduceIte,reduceEqDiff,reduceEq,reduceAdd,reduceCtorEq,cp,wp]
 have ho : Own ([AObj.tok 1] : Heap) 1 (.sl 1 l.length (encs u64A l) (.own 0)) l.length (encs u64A l) := .inr ⟨n0,0,rfl,rfl⟩
 refine runX_app ho (by omega) (by omega) (by omega) (by omega) rfl rfl (fun H2 q1 q2 q3 => ?_)
 have ee : encs u64A l ++ [.int .u64 (moreM 0 (bytM l))] = encs u64A (sealM l) := by unfold sealM; rw [encs_append]; rfl
 have eln : l.length + 1 = (sealM l).length := by unfold sealM; simp
 rw [ee,eln] at q1 ⊢
 have hne : sealM l ≠ [] := by unfold sealM; simp
 simp (disch := omega) only [wk,tupled,↓reduceIte,reduceEqDiff,reduceEq,reduceAdd,reduceCtorEq]
 rw [<- prRow_ne (f := u64A) (sz := 1) hne]
 exact purify_row (fun _ => rfl) q1 (fun e => absurd e hne)
theorem super_px {f : Frm} (h : okF f) {k0 k1 : Int} (hk0 : U64 k0) (hk1 : U64 k1) : ∃ v,∀ H,pcx (cbL tab) 165 [.agg (layA f k0 k1)] H = some (.plain (.tup [v,.int .i64 0])) := by
 have hr := fun H => lright_px h k0 k1 H
 obtain ⟨h1,h2,h3,h4,h5,h6,h7,h8,h9,h10,h11⟩ := h
 have w1 : IntKind.u64.wrap f.b = f.b := wrap_u64 (by omega) (by omega)
 have w2 : IntKind.u64.wrap f.i = f.i := wrap_u64 (by omega) (by omega)
 have w3 : IntKind.u64.wrap f.r = f.r := wrap_u64 (by omega) (by omega)
 have w4 : IntKind.u64.wrap f.t = f.t := wrap_u64 (by omega) (by omega)
 generalize hl : [3555397645633865032,f.b,f.i,f.r,f.t,k0,k1] = l
 have hl7 : l.length = 7 := by rw [<- hl]; rfl
 have le : encs u64A l = [.int .u64 3555397645633865032,.int .u64 f.b,.int .u64 f.i,.int .u64 f.r,.int .u64 f.t,.int .u64 k0,.int .u64 k1] := by rw [<- hl]; rfl
 have hne : l ≠ [] := by rw [<- hl]; simp
 have hw : ∀ w ∈ l,U64 w := by
   rw [<- hl]
   intro w hw
   simp only [List.mem_cons,List.not_mem_nil,or_false] at hw
   rcases hw with rfl | rfl | rfl | rfl | rfl | rfl | rfl
   . exact ⟨by decide,by decide⟩
   . exact ⟨by omega,by omega⟩
   . exact ⟨by omega,by omega⟩
   . exact ⟨by omega,by omega⟩
   . exact ⟨by omega,by omega⟩
   . exact hk0
   . exact hk1
 have sp := fun H => seal_px hne (by omega) (by rw [bytM_len]; omega) hw (tk := .ro) (.inl rfl) H
 rw [le,hl7] at sp
 have hs8 : (sealM l).length = 8 := by unfold sealM; simp [hl7]
 have hsn : sealM l ≠ [] := by unfold sealM; simp
 have key : ∃ r,(cbL tab).pc 165 [.agg (layA f k0 k1)] = some r /\ ∃ v,r = .plain (.tup [v,.int .i64 0]) := by
   refine pc_wpE (fi := c165) rfl rfl (by simp [c165]) (by decide) ?_
   unfold c165
   have e1 : lend (.agg (layA f k0 k1)) = .agg (layA f k0 k1) := rfl
   rw [List.map_cons,List.map_nil,e1]
   unfold layA frmA at hr ⊢
   simp only [List.cons_append,List.nil_append] at hr ⊢
   have x0 : 4 + Int.toNat 0 = 4 := rfl
   have x1 : 4 + Int.toNat 1 = 5 := rfl
   obtain ⟨pn,v',H',p1,p2,p3⟩ := padded_ic (sealM l) 2 [.cells [.int .i64 f.b,.int .i64 f.i,.int .i64 f.r,.int .i64 f.t,.int .u64 k0,.int .u64 k1,.int .i64 9,.int .i64 (9 + f.i / 4),.int .i64 (9 + f.i / 4 + f.r / 4),.int .i64 (9 + f.i / 4 + f.r / 4 + 1)],.cells [.int .i64 f.b,.int .i64 f.i,.int .i64 f.r,.int .i64 f.t],.tok 1] (by omega) rfl hsn
   simp (disch := omega) only [wk,tupled,↓reduceIte,reduceEqDiff,reduceEq,reduceAdd,reduceCtorEq,hr,w1,w2,w3,w4,x0,x1,sp,pn,p1,runE_none lpad]
   have hfu : ∀ l : List Int,hfL (encs u64A l) = true := fun l => hfL_encs (fun _ => rfl) l
   rcases p2 with ⟨_,h,_⟩ | ⟨_,g,rfl,_⟩
   . rw [List.length_append] at h
     omega
   . refine ⟨.plain (.tup [.sl 1 (sealM l ++ List.replicate (64 - (sealM l).length) 0).length (encs u64A (sealM l ++ List.replicate (64 - (sealM l).length) 0)) .ro,.int .i64 0]), ?_,_,rfl⟩
     simp only [purify,unownT,lend,unown,List.map_cons,List.map_nil,AV.hf,hfL,hfu,Tk.hf,Bool.and_self,if_true]
 obtain ⟨r,h1,v,rfl⟩ := key
 exact ⟨v,fun H => pcx_N rfl h1⟩
end Go.Proofs.YtogbblcnfcfflaaGreat
namespace Go.Proofs.YtogbblcnfcfflaaGreat
open Go Go.Am Go.Rec Go.Ino
structure Redo where
 k : Int
 i : Int
 ws : List Int
 fr : Int
 to : Int
 fk : Int
 tk : Int
 rc : Int
 dir : Bool
deriving DecidableEq
def redA (r : Redo) : List AV := .int .i64 r.k :: .int .i64 r.i :: (encs u64A r.ws ++ [.int .i64 r.fr,.int .i64 r.to,.int .u64 r.fk,.int .u64 r.tk,.int .i64 r.rc,.bool r.dir])
def ws0 : List Int := List.replicate 16 0
def red0 : Redo := ⟨0,0,ws0,0,0,0,0,0,false⟩
def fileW (ws : List Int) : Bool := match ws with
 | w0 :: w1 :: w2 :: w3 :: r => decide ((ofI w0 w1 w2 w3 r).2 = 0 /\ (ofI w0 w1 w2 w3 r).1.kind = 1)
 | _ => false
def mayB (f : Frm) (r : Redo) : Prop :=
 (r.k = 1 /\ fileW r.ws = true /\ r.fr = 0 /\ r.to = 0 /\ r.fk = 0 /\ r.tk = 0 /\ r.rc = 0 /\ r.dir = false) ∨
 (r.k = 2 /\ r.ws = ws0 /\ (1 <= r.fr /\ r.fr <= f.i) /\ (1 <= r.to /\ r.to <= f.i) /\ (1 <= r.rc /\ r.rc <= f.r) /\ (r.fr ≠ r.to ∨ r.fk ≠ r.tk))
instance (f : Frm) (r : Redo) : Decidable (mayB f r) := inferInstanceAs (Decidable (_ ∨ _))
def mayR (f : Frm) (r : Redo) : Prop := (1 <= r.i /\ r.i <= f.i) /\ mayB f r
instance (f : Frm) (r : Redo) : Decidable (mayR f r) := inferInstanceAs (Decidable (_ /\ _))
structure RedT (r : Redo) : Prop where
 k0 : -9223372036854775808 <= r.k
 k1 : r.k < 9223372036854775808
 i0 : -9223372036854775808 <= r.i
 i1 : r.i < 9223372036854775808
 wl : r.ws.length = 16
 wu : ∀ w ∈ r.ws,U64 w
 f0 : -9223372036854775808 <= r.fr
 f1 : r.fr < 9223372036854775808
 t0 : -9223372036854775808 <= r.to
 t1 : r.to < 9223372036854775808
 fk : U64 r.fk
 tk : U64 r.tk
 r0 : -9223372036854775808 <= r.rc
 r1 : r.rc < 9223372036854775808
def dirI (b : Bool) : Int := if b then 1 else 0
def bodyR (r : Redo) : List Int := if r.k = 1 then r.i :: r.ws else [r.fr,r.fk,r.to,r.tk,r.rc,r.i,dirI r.dir]
def headR (r : Redo) : Int := if r.k = 1 then 4353 else 1794
def plainR (r : Redo) : List Int := headR r :: bodyR r
def wordsR (r : Redo) : List Int := sealM (plainR r)
def manyW (w : List Int) : Nat := if w.getD 0 0 = 4353 then 18 else 8
def decR (w : List Int) : Redo :=
 if w.getD 0 0 = 4353 then ⟨1,w.getD 1 0,(w.drop 2).take 16,0,0,0,0,0,false⟩
 else ⟨2,w.getD 6 0,ws0,w.getD 1 0,w.getD 3 0,w.getD 2 0,w.getD 4 0,w.getD 5 0,decide (w.getD 7 0 = 1)⟩
def goodW (f : Frm) (w : List Int) : Prop :=
 (w.getD 0 0 = 4353 ∨ (w.getD 0 0 = 1794 /\ w.getD 7 0 <= 1)) /\ mayR f (decR w) /\ sealM (w.take (manyW w)) = w.take (manyW w + 1)
instance (f : Frm) (w : List Int) : Decidable (goodW f w) := inferInstanceAs (Decidable (_ /\ _))
def ofW (f : Frm) (w : List Int) : Redo × Bool × Int :=
 if w.length ≠ 64 then (red0,false,310) else if w.getD 0 0 = 0 then (red0,false,0) else if goodW f w then (decR w,true,0) else (red0,false,310)
theorem mayB_k {f : Frm} {r : Redo} (h : mayB f r) : r.k = 1 ∨ r.k = 2 := by rcases h with h | h; exact .inl h.1; exact .inr h.1
end Go.Proofs.YtogbblcnfcfflaaGreat
namespace Go.Proofs.YtogbblcnfcfflaaGreat
open Go Go.Am Go.Rec
def lyA (f : Frm) (k0 k1 c d e g : Int) : List AV := frmA f ++ [.int .u64 k0,.int .u64 k1,.int .i64 c,.int .i64 d,.int .i64 e,.int .i64 g]
def okL (f : Frm) (c d e g : Int) : Prop := okF f /\ 9 = c /\ 9 + f.i / 4 = d /\ 9 + f.i / 4 + f.r / 4 = e /\ 9 + f.i / 4 + f.r / 4 + 1 = g
instance (f : Frm) (c d e g : Int) : Decidable (okL f c d e g) := inferInstanceAs (Decidable (_ /\ _))
theorem lof_no {f : Frm} (h : ¬ okF f) (k0 k1 : Int) (H : Heap) : pcx (cbL tab) 172 [.agg (frmA f),.agg [.int .u64 k0,.int .u64 k1]] H = some (.plain (.tup [.agg lyz,.int .i64 2])) := by
 refine pcx_N rfl (pc_wp (fi := c172) rfl rfl (by simp [c172]) (by decide) ?_)
 unfold c172
 have e1 : lend (.agg (frmA f)) = .agg (frmA f) := rfl
 have e2 : lend (.agg [.int .u64 k0,.int .u64 k1]) = .agg [.int .u64 k0,.int .u64 k1] := rfl
 rw [List.map_cons,List.map_cons,List.map_nil,e1,e2]
 have i1 := fun H => lin_px f.b 32 2048 H
 have i2 := fun H => lin_px f.i 4 256 H
 have i3 := fun H => lin_px f.r 4 1024 H
 have i4 := fun H => lin_px f.t 1 40 H
 unfold frmA lyz
 by_cases c1 : 32 <= f.b /\ f.b <= 2048
 case neg =>
   rw [decide_eq_false c1] at i1
   clear h
   simp (disch := omega) only [wk,tupled,↓reduceIte,reduceEqDiff,reduceEq,reduceAdd,reduceCtorEq,i1,c1]
   rw [ret_scp_goto rfl]
   refine ret_again (by decide) (.inl rfl) ?_
   simp (disch := omega) only [wk,tupled,↓reduceIte,reduceEqDiff,reduceEq,reduceAdd,reduceCtorEq,purify,unownT,lend,unown,AV.hf,hfL,Tk.hf]
 rw [decide_eq_true c1] at i1
 by_cases c4 : 1 <= f.t /\ f.t <= 40
 case neg =>
   rw [decide_eq_false c4] at i4
   clear h
   simp (disch := omega) only [wk,tupled,↓reduceIte,reduceEqDiff,reduceEq,reduceAdd,reduceCtorEq,i1,i4]
   rw [ret_scp_goto rfl]
   refine ret_again (by decide) (.inl rfl) ?_
   simp (disch := omega) only [wk,tupled,↓reduceIte,reduceEqDiff,reduceEq,reduceAdd,reduceCtorEq,purify,unownT,lend,unown,AV.hf,hfL,Tk.hf]
 rw [decide_eq_true c4] at i4
 by_cases c2 : 4 <= f.i /\ f.i <= 256
 case neg =>
   rw [decide_eq_false c2] at i2
   clear h
   simp (disch := omega) only [wk,tupled,↓reduceIte,reduceEqDiff,reduceEq,reduceAdd,reduceCtorEq,i1,i4,i2]
   rw [ret_scp_goto rfl]
   refine ret_again (by decide) (.inl rfl) ?_
   simp (disch := omega) only [wk,tupled,↓reduceIte,reduceEqDiff,reduceEq,reduceAdd,reduceCtorEq,purify,unownT,lend,unown,AV.hf,hfL,Tk.hf]
 rw [decide_eq_true c2] at i2
 by_cases c5 : f.i % 4 = 0
 case neg =>
   clear h
   simp (disch := omega) only [wk,tupled,↓reduceIte,reduceEqDiff,reduceEq,reduceAdd,reduceCtorEq,i1,i4,i2,c5]
   rw [ret_scp_goto rfl]
   refine ret_again (by decide) (.inl rfl) ?_
   simp (disch := omega) only [wk,tupled,↓reduceIte,reduceEqDiff,reduceEq,reduceAdd,reduceCtorEq,purify,unownT,lend,unown,AV.hf,hfL,Tk.hf]
 by_cases c3 : 4 <= f.r /\ f.r <= 1024
 case neg =>
   rw [decide_eq_false c3] at i3
   clear h
   simp (disch := omega) only [wk,tupled,↓reduceIte,reduceEqDiff,reduceEq,reduceAdd,reduceCtorEq,i1,i4,i2,c5,i3]
   rw [ret_scp_goto rfl]
   refine ret_again (by decide) (.inl rfl) ?_
   simp (disch := omega) only [wk,tupled,↓reduceIte,reduceEqDiff,reduceEq,reduceAdd,reduceCtorEq,purify,unownT,lend,unown,AV.hf,hfL,Tk.hf]
 rw [decide_eq_true c3] at i3
 by_cases c8 : f.r % 4 = 0
 case neg =>
   clear h
   simp (disch := omega) only [wk,tupled,↓reduceIte,reduceEqDiff,reduceEq,reduceAdd,reduceCtorEq,i1,i4,i2,c5,i3,c8]
   rw [ret_scp_goto rfl]
   refine ret_again (by decide) (.inl rfl) ?_
   simp (disch := omega) only [wk,tupled,↓reduceIte,reduceEqDiff,reduceEq,reduceAdd,reduceCtorEq,purify,unownT,lend,unown,AV.hf,hfL,Tk.hf]
 have c11 : f.b - (9 + f.i / 4 + f.r / 4 + 1) < 4 := by
   unfold okF at h
   omega
 have q1 : 0 <= f.i := by omega
 have q2 : 0 <= f.r := by omega
 clear h
 simp (disch := omega) only [wk,tupled,↓reduceIte,reduceEqDiff,reduceEq,reduceAdd,reduceCtorEq,i1,i4,i2,c5,i3,c8,c11]
 rw [ret_scp_goto rfl]
 refine ret_again (by decide) (.inl rfl) ?_
 simp (disch := omega) only [wk,tupled,↓reduceIte,reduceEqDiff,reduceEq,reduceAdd,reduceCtorEq,purify,unownT,lend,unown,AV.hf,hfL,Tk.hf]
theorem cellsI {ks : List Nat} {xs ys : List AV} {k : IntKind} {a b : Int} : cellsEq (0 :: ks) (.int k a :: xs) (.int k b :: ys) = if a = b then cellsEq ks xs ys else some false := by
 have : cellEq 0 (.int k a) (.int k b) = some (a == b) := by show (if k = k then some (a == b) else none) = _; rw [if_pos rfl]
 rw [cellsEq,this]
 by_cases h : a = b
 . rw [if_pos h,h,beq_self_eq_true]
 . rw [if_neg h,beq_eq_false_iff_ne.2 h]
theorem lay_eqn {xo yo : X} {a b c d e f g h i j g' h' i' j' : Int} : binV .eql (.struct [0,0,0,0,0,0,0,0,0,0]) xo yo (.agg [.int .i64 a,.int .i64 b,.int .i64 c,.int .i64 d,.int .u64 e,.int .u64 f,.int .i64 g,.int .i64 h,.int .i64 i,.int .i64 j]) (.agg [.int .i64 a,.int .i64 b,.int .i64 c,.int .i64 d,.int .u64 e,.int .u64 f,.int .i64 g',.int .i64 h',.int .i64 i',.int .i64 j']) = some (.bool (decide (g = g' /\ h = h' /\ i = i' /\ j = j'))) := by
 show (cellsEq _ _ _).map _ = _
 simp only [cellsI,if_true]
 by_cases h1 : g = g'
 . by_cases h2 : h = h'
   . by_cases h3 : i = i'
     . by_cases h4 : j = j'
       . simp only [h1,h2,h3,h4,if_true,and_self,decide_true]; rfl
       . simp only [h1,h2,h3,h4,if_true,if_false,and_false,decide_false]; rfl
     . simp only [h1,h2,h3,if_true,if_false,and_false,false_and,decide_false]; rfl
   . simp only [h1,h2,if_true,if_false,and_false,false_and,decide_false]; rfl
 . simp only [h1,if_false,false_and,decide_false]; rfl
theorem lright_all (f : Frm) (k0 k1 c d e g : Int) (H : Heap) : pcx (cbL tab) 107 [.agg (lyA f k0 k1 c d e g)] H = some (.plain (.bool (decide (okL f c d e g)))) := by
 refine pcx_N rfl (pc_wp (fi := c107) rfl rfl (by simp [c107]) (by decide) ?_)
 unfold c107
 have e1 : lend (.agg (lyA f k0 k1 c d e g)) = .agg (lyA f k0 k1 c d e g) := rfl
 rw [List.map_cons,List.map_nil,e1]
 unfold okL lyA
 by_cases h : okF f
 . have lo := fun H => lof_px h k0 k1 H
   simp only [h,true_and]
   clear h
   unfold layA frmA at lo
   unfold frmA
   simp only [List.cons_append,List.nil_append] at lo ⊢
   simp (disch := omega) only [wk,tupled,↓reduceIte,reduceEqDiff,reduceEq,reduceAdd,reduceCtorEq,lo,lay_eqn,purify,unownT,lend,unown,AV.hf,hfL,Tk.hf]
 . have lo := fun H => lof_no h k0 k1 H
   simp only [h,false_and,decide_false]
   clear h
   unfold frmA lyz at lo
   unfold frmA
   simp only [List.cons_append,List.nil_append] at lo ⊢
   simp (disch := omega) only [wk,tupled,↓reduceIte,reduceEqDiff,reduceEq,reduceAdd,reduceCtorEq,lo,purify,unownT,lend,unown,AV.hf,hfL,Tk.hf]
theorem super_no {f : Frm} {c d e g : Int} (h : ¬ okL f c d e g) (k0 k1 : Int) (H : Heap) : pcx (cbL tab) 165 [.agg (lyA f k0 k1 c d e g)] H = some (.plain (.tup [.sl 0 0 [] .z,.int .i64 2])) := by
 have hr := fun H => lright_all f k0 k1 c d e g H
 rw [decide_eq_false h] at hr
 clear h
 refine pcx_N rfl (pc_wp (fi := c165) rfl rfl (by simp [c165]) (by decide) ?_)
 unfold c165
 have e1 : lend (.agg (lyA f k0 k1 c d e g)) = .agg (lyA f k0 k1 c d e g) := rfl
 rw [List.map_cons,List.map_nil,e1]
 unfold lyA frmA at hr ⊢
 simp only [List.cons_append,List.nil_append] at hr ⊢
 simp (disch := omega) only [wk,tupled,↓reduceIte,reduceEqDiff,reduceEq,reduceAdd,reduceCtorEq,hr,purify,unownT,lend,unown,AV.hf,hfL,Tk.hf]
theorem ly_ok {f : Frm} {c d e g : Int} (h : okL f c d e g) (k0 k1 : Int) : lyA f k0 k1 c d e g = layA f k0 k1 := by
 obtain ⟨_,rfl,rfl,rfl,rfl⟩ := h
 rfl
end Go.Proofs.YtogbblcnfcfflaaGreat
namespace Go.Proofs.YtogbblcnfcfflaaGreat
open Go Go.Am Go.Rec Go.Ino
def panJ (e : Int) : PR := .pan [(.iface 37 (.int .i64 e),false)]
theorem jmust_t (e : Int) (H : Heap) : pcx (cbL tab) 105 [.bool true,.int .i64 e] H = some (.plain (.tup [])) := by
 refine pcx_N rfl (pc_wp (fi := c105) rfl rfl (by simp [c105]) (by decide) ?_)
 unfold c105
 have lb : lend (.bool true) = .bool true := rfl
 rw [List.map_cons,List.map_cons,List.map_nil,lb,lend_int]
 simp (disch := omega) only [wk,tupled,↓reduceIte,reduceEqDiff,reduceEq,reduceAdd,reduceCtorEq,purify,unownT,lend,unown,AV.hf,hfL]
theorem jmust_f (e : Int) (H : Heap) : pcx (cbL tab) 105 [.bool false,.int .i64 e] H = some (panJ e) := by
 refine pcx_N rfl (pc_wp (fi := c105) rfl rfl (by simp [c105]) (by decide) ?_)
 unfold c105 panJ
 have lb : lend (.bool false) = .bool false := rfl
 rw [List.map_cons,List.map_cons,List.map_nil,lb,lend_int]
 simp (disch := omega) only [wk,tupled,↓reduceIte,reduceEqDiff,reduceEq,reduceAdd,reduceCtorEq,purify,unownT,lend,unown,AV.hf,hfL]
theorem jcaught_ret (a : Nat) (f : FuncId) (caps : List AV) (H : Heap) : leaveA tab (cbL tab) [.call 64 [.ptr a 0,.fn f caps]] .returning H = some (.returning,H) := by
 rfl
theorem jcaught_pan (a : Nat) (f : FuncId) (caps : List AV) (H H1 : Heap) (e : Int) (y v : AV) (h : enterA (cbL tab) f caps H = some (.ret v,H1)) (hy : H1[a]? = some (.cells [y])) :
   leaveA tab (cbL tab) [.call 64 [.ptr a 0,.fn f caps]] (.panicking [(.iface 37 (.int .i64 e),false)]) H = some (.returning,H1.set a (.cells [.int .i64 e])) := by
 have ht : tab 64 = some c64 := rfl
 simp [leaveA,ht,bodyD,c64,acodeD,aregionD,hasRecov,acode,aregion,aval,aact,putD,X.ev,fr0,wantedA,binV,eqV,unV,h,hy,AV.flat,allOne,AV.one,resA,settleA,isNili]
theorem jin_px (n lo hi : Int) (H : Heap) : pcx (cbL tab) 106 [.int .i64 n,.int .i64 lo,.int .i64 hi] H = some (.plain (.bool (decide (lo <= n /\ n <= hi)))) := by
 refine pcx_N rfl (pc_wp (fi := c106) rfl rfl (by simp [c106]) (by decide) ?_)
 unfold c106
 rw [List.map_cons,List.map_cons,List.map_cons,List.map_nil,lend_int,lend_int,lend_int]
 by_cases h1 : lo <= n <;> by_cases h2 : n <= hi <;> simp (disch := omega) only [wk,tupled,↓reduceIte,reduceEqDiff,reduceEq,reduceAdd,reduceCtorEq,h1,h2,purify,unownT,lend,unown,AV.hf,and_false,false_and]
theorem jlaid_ok {f : Frm} (h : okF f) {k0 k1 : Int} (h0 : U64 k0) (h1 : U64 k1) (H : Heap) : pcx (cbL tab) 103 [.agg (layA f k0 k1)] H = some (.plain (.tup [])) := by
 obtain ⟨v,sp⟩ := super_px h h0 h1
 clear h
 refine pcx_N rfl (pc_wp (fi := c103) rfl rfl (by simp [c103]) (by decide) ?_)
 unfold c103
 have e1 : lend (.agg (layA f k0 k1)) = .agg (layA f k0 k1) := rfl
 rw [List.map_cons,List.map_nil,e1]
 have mt := fun H => jmust_t 2 H
 unfold layA frmA at sp ⊢
 simp only [List.cons_append,List.nil_append] at sp ⊢
 simp (disch := omega) only [wk,tupled,↓reduceIte,reduceEqDiff,reduceEq,reduceAdd,reduceCtorEq,sp,mt,purify,unownT,lend,unown,AV.hf,hfL,Tk.hf]
theorem jlaid_no {f : Frm} {c d e g : Int} (h : ¬ okL f c d e g) (k0 k1 : Int) (H : Heap) : pcx (cbL tab) 103 [.agg (lyA f k0 k1 c d e g)] H = some (panJ 2) := by
 have sp := fun H => super_no h k0 k1 H
 clear h
 refine pcx_N rfl (pc_wp (fi := c103) rfl rfl (by simp [c103]) (by decide) ?_)
 unfold c103
 have e1 : lend (.agg (lyA f k0 k1 c d e g)) = .agg (lyA f k0 k1 c d e g) := rfl
 rw [List.map_cons,List.map_nil,e1]
 have mf := fun H => jmust_f 2 H
 have pj : ∀ H : Heap,purify (some (.pan [(.iface 37 (.int .i64 2),false)],H)) = some (panJ 2) := fun H => rfl
 unfold panJ at mf
 unfold lyA frmA at sp ⊢
 simp only [List.cons_append,List.nil_append] at sp ⊢
 simp (disch := omega) only [wk,tupled,↓reduceIte,reduceEqDiff,reduceEq,reduceAdd,reduceCtorEq,sp,mf,pj]
def kd1 : AV := .agg [.int .i64 17,.fn 166 [],.fn 167 [],.fn 168 []]
def kd2 : AV := .agg [.int .i64 7,.fn 169 [],.fn 170 [],.fn 171 []]
def jkE : List (AV × AV) := [(.int .i64 1,kd1),(.int .i64 2,kd2)]
theorem jkinds_px (H : Heap) : pcx (cbL tab) 104 [] H = some (.fmap jkE) := by
 refine pcx_N rfl (pc_wp (fi := c104) rfl rfl (by simp [c104]) (by decide) ?_)
 unfold c104 jkE kd1 kd2
 have b21 : ((2 : Int) == 1) = false := rfl
 simp (disch := omega) only [wk,tupled,↓reduceIte,reduceEqDiff,reduceEq,reduceAdd,reduceCtorEq,findA,cellEq,b21,purify,hfL,AV.hf]
theorem jfind1 : findA 0 (.int .i64 1) jkE 0 = some (some (0,kd1)) := rfl
theorem jfind2 : findA 0 (.int .i64 2) jkE 0 = some (some (1,kd2)) := rfl
theorem jfind_no {k : Int} (h1 : k ≠ 1) (h2 : k ≠ 2) : findA 0 (.int .i64 k) jkE 0 = some none := by
 have b1 : (k == 1) = false := by simp [h1]
 have b2 : (k == 2) = false := by simp [h2]
 simp [findA,jkE,cellEq,b1,b2]
theorem cellsU {ks : List Nat} {xs ys : List AV} : ∀ (a b : List Int),a.length = b.length -> cellsEq (List.replicate a.length 0 ++ ks) (encs u64A a ++ xs) (encs u64A b ++ ys) = if a = b then cellsEq ks xs ys else some false
 | [],[],_ => rfl
 | [],_ :: _,h => by simp at h
 | _ :: _,[],h => by simp at h
 | x :: a,y :: b,h => by
   have ih := cellsU (ks := ks) (xs := xs) (ys := ys) a b (by simpa using h)
   rw [List.length_cons,List.replicate_succ]
   show cellsEq (0 :: (List.replicate a.length 0 ++ ks)) (.int .u64 x :: (encs u64A a ++ xs)) (.int .u64 y :: (encs u64A b ++ ys)) = _
   rw [cellsI,ih]
   by_cases hxy : x = y
   . simp [hxy]
   . simp [hxy]
def redK : List Nat := [0,0,0,0,0,0,0,0,0,0,0,0,0,0,0,0,0,0,0,0,0,0,0,1]
theorem red_eqc {a b : Redo} (ha : a.ws.length = 16) (hb : b.ws.length = 16) : cellsEq redK (redA a) (redA b) = some (decide (a = b)) := by
 obtain ⟨k,i,ws,fr,to,fk,tk,rc,dir⟩ := a
 obtain ⟨k',i',ws',fr',to',fk',tk',rc',dir'⟩ := b
 dsimp only at ha hb
 have e : redK = 0 :: 0 :: (List.replicate ws.length 0 ++ [0,0,0,0,0,1]) := by rw [ha]; rfl
 have eb : ∀ x y : Bool,cellsEq [1] [.bool x] [.bool y] = some (x == y) := fun x y => by cases x <;> cases y <;> rfl
 unfold redA
 rw [e,cellsI,cellsI,cellsU _ _ (by rw [ha,hb]),cellsI,cellsI,cellsI,cellsI,cellsI,eb]
 simp only [Redo.mk.injEq]
 by_cases h1 : k = k' <;> by_cases h2 : i = i' <;> by_cases h3 : ws = ws' <;> by_cases h4 : fr = fr' <;> by_cases h5 : to = to' <;> by_cases h6 : fk = fk' <;> by_cases h7 : tk = tk' <;> by_cases h8 : rc = rc' <;> simp [h1,h2,h3,h4,h5,h6,h7,h8] <;> cases dir <;> cases dir' <;> rfl
theorem red_eqv {xo yo : X} {a b : Redo} (ha : a.ws.length = 16) (hb : b.ws.length = 16) : binV .eql (.struct redK) xo yo (.agg (redA a)) (.agg (redA b)) = some (.bool (decide (a = b))) := by
 show (cellsEq _ _ _).map _ = _
 rw [red_eqc ha hb]
 rfl
def undA (f : Frm) (r : Redo) : AV := .agg (redA r ++ frmA f)
theorem hf_redA (r : Redo) : hfL (redA r) = true := by
 unfold redA
 simp [hfL,hfL_append,hf_u64A,AV.hf]
theorem lend_redA (r : Redo) : (redA r).map unown = redA r := by
 unfold redA
 rw [List.map_cons,List.map_cons,List.map_append,unown_encsU]
 rfl
theorem lend_und (f : Frm) (r : Redo) : lend (undA f r) = undA f r := by
 show AV.agg ((redA r ++ frmA f).map unown) = _
 rw [List.map_append,lend_redA]
 rfl
theorem hf_und (f : Frm) (r : Redo) : (undA f r).hf = true := by
 show hfL (redA r ++ frmA f) = true
 rw [hfL_append,hf_redA]
 rfl
theorem sixteen {l : List Int} (h : l.length = 16) : ∃ w0 w1 w2 w3 w4 w5 w6 w7 w8 w9 w10 w11 w12 w13 w14 w15,l = [w0,w1,w2,w3,w4,w5,w6,w7,w8,w9,w10,w11,w12,w13,w14,w15] := by
 match l,h with
 | [w0,w1,w2,w3,w4,w5,w6,w7,w8,w9,w10,w11,w12,w13,w14,w15],_ => exact ⟨_,_,_,_,_,_,_,_,_,_,_,_,_,_,_,_,rfl⟩
def bareR (r : Redo) : Redo := ⟨r.k,r.i,r.ws,0,0,0,0,0,false⟩
theorem ofIU_eq (n : Ino) (e : Int) : ofIU n e = .tup [inoA n (mapU n.map),.int .i64 e] := rfl
theorem jmay1_px (f : Frm) (r : Redo) (ht : RedT r) (H : Heap) : pcx (cbL tab) 166 [undA f r] H = some (.plain (.bool (decide (fileW r.ws = true /\ r = bareR r)))) := by
 have hq := fun xo yo => red_eqv (xo := xo) (yo := yo) (a := r) (b := bareR r) ht.wl ht.wl
 obtain ⟨w0,w1,w2,w3,w4,w5,w6,w7,w8,w9,w10,w11,w12,w13,w14,w15,hw⟩ := sixteen ht.wl
 have hu := ht.wu
 rw [hw] at hu
 have wok : WOk w0 w1 w2 w3 [w4,w5,w6,w7,w8,w9,w10,w11,w12,w13,w14,w15] [] :=
   ⟨rfl,hu _ (by simp),hu _ (by simp),hu _ (by simp),hu _ (by simp),fun x hx => hu x (List.mem_cons_of_mem _ (List.mem_cons_of_mem _ (List.mem_cons_of_mem _ (List.mem_cons_of_mem _ hx)))),rfl⟩
 refine pcx_N rfl (pc_wp (fi := c166) rfl ?_ (by simp [c166]) (by decide) ?_)
 . simp only [pcOn,List.map_cons,List.map_nil,hfL,hf_lend_sl,hf_lend_int,hf_lend_bool,hf_lend_str,hfL_append,Bool.and_self,Bool.and_true,Bool.true_and,c166,lend_und,hf_und]
 rw [List.map_cons,List.map_nil,lend_und]
 have fw : fileW r.ws = decide ((ofI w0 w1 w2 w3 [w4,w5,w6,w7,w8,w9,w10,w11,w12,w13,w14,w15]).2 = 0 /\ (ofI w0 w1 w2 w3 [w4,w5,w6,w7,w8,w9,w10,w11,w12,w13,w14,w15]).1.kind = 1) := by rw [hw]; rfl
 have op := fun tk H => xofI_px w0 w1 w2 w3 [w4,w5,w6,w7,w8,w9,w10,w11,w12,w13,w14,w15] _ tk H wok
 generalize ofI w0 w1 w2 w3 [w4,w5,w6,w7,w8,w9,w10,w11,w12,w13,w14,w15] = O at fw op
 obtain ⟨n,e⟩ := O
 dsimp only at fw op
 rw [ofIU_eq] at op
 have m1 := (mapU_one n.map).1
 have m2 := (mapU_one n.map).2
 generalize mapU n.map = M at op m1 m2
 rw [fw]
 unfold wlit at op
 unfold c166 undA redA frmA
 have r0 : r = ⟨r.k,r.i,r.ws,r.fr,r.to,r.fk,r.tk,r.rc,r.dir⟩ := rfl
 unfold redA bareR redK at hq
 rw [hw] at hq ⊢
 simp only [encs_cons,encs_nil,u64A,List.cons_append,List.nil_append,frmA] at op hq ⊢
 unfold inoA at op
 by_cases h1 : e = 0
 . by_cases h2 : n.kind = 1
   . simp (disch := omega) only [wk,tupled,↓reduceIte,reduceEqDiff,reduceEq,reduceAdd,reduceCtorEq,op,m1,m2,h1,h2,hq,purify,unownT,lend,unown,AV.hf,hfL,Tk.hf]
     unfold bareR
     rw [hw]
   . simp (disch := omega) only [wk,tupled,↓reduceIte,reduceEqDiff,reduceEq,reduceAdd,reduceCtorEq,op,m1,m2,h1,h2,hq,purify,unownT,lend,unown,AV.hf,hfL,Tk.hf]
     simp
 . simp (disch := omega) only [wk,tupled,↓reduceIte,reduceEqDiff,reduceEq,reduceAdd,reduceCtorEq,op,m1,m2,h1,hq,purify,unownT,lend,unown,AV.hf,hfL,Tk.hf]
   simp
theorem jmay2_px (f : Frm) (r : Redo) (ht : RedT r) (H : Heap) : pcx (cbL tab) 169 [undA f r] H = some (.plain (.bool (decide (r.ws = ws0 /\ (1 <= r.fr /\ r.fr <= f.i) /\ (1 <= r.to /\ r.to <= f.i) /\ (1 <= r.rc /\ r.rc <= f.r) /\ (r.fr ≠ r.to ∨ r.fk ≠ r.tk))))) := by
 have hz := ceq_u r.ws ws0 (by rw [ht.wl]; rfl)
 obtain ⟨w0,w1,w2,w3,w4,w5,w6,w7,w8,w9,w10,w11,w12,w13,w14,w15,hw⟩ := sixteen ht.wl
 have hq : ∀ xo yo,binV .eql (.struct [0,0,0,0,0,0,0,0,0,0,0,0,0,0,0,0]) xo yo (.agg [.int .u64 w0,.int .u64 w1,.int .u64 w2,.int .u64 w3,.int .u64 w4,.int .u64 w5,.int .u64 w6,.int .u64 w7,.int .u64 w8,.int .u64 w9,.int .u64 w10,.int .u64 w11,.int .u64 w12,.int .u64 w13,.int .u64 w14,.int .u64 w15])
     (.agg [.int .u64 0,.int .u64 0,.int .u64 0,.int .u64 0,.int .u64 0,.int .u64 0,.int .u64 0,.int .u64 0,.int .u64 0,.int .u64 0,.int .u64 0,.int .u64 0,.int .u64 0,.int .u64 0,.int .u64 0,.int .u64 0]) = some (.bool (decide (r.ws = ws0))) := by
   intro xo yo
   rw [hw] at hz ⊢
   show (cellsEq _ _ _).map _ = _
   have hz' : cellsEq [0,0,0,0,0,0,0,0,0,0,0,0,0,0,0,0] [.int .u64 w0,.int .u64 w1,.int .u64 w2,.int .u64 w3,.int .u64 w4,.int .u64 w5,.int .u64 w6,.int .u64 w7,.int .u64 w8,.int .u64 w9,.int .u64 w10,.int .u64 w11,.int .u64 w12,.int .u64 w13,.int .u64 w14,.int .u64 w15]
     [.int .u64 0,.int .u64 0,.int .u64 0,.int .u64 0,.int .u64 0,.int .u64 0,.int .u64 0,.int .u64 0,.int .u64 0,.int .u64 0,.int .u64 0,.int .u64 0,.int .u64 0,.int .u64 0,.int .u64 0,.int .u64 0] = _ := hz
   rw [hz']
   rfl
 refine pcx_N rfl (pc_wp (fi := c169) rfl ?_ (by simp [c169]) (by decide) ?_)
 . simp only [pcOn,List.map_cons,List.map_nil,hfL,hf_lend_sl,hf_lend_int,hf_lend_bool,hf_lend_str,hfL_append,Bool.and_self,Bool.and_true,Bool.true_and,c169,lend_und,hf_und]
 rw [List.map_cons,List.map_nil,lend_und]
 have i1 := fun H => jin_px r.fr 1 f.i H
 have i2 := fun H => jin_px r.to 1 f.i H
 have i3 := fun H => jin_px r.rc 1 f.r H
 unfold c169 undA redA frmA
 have hw2 : encs u64A r.ws = [.int .u64 w0,.int .u64 w1,.int .u64 w2,.int .u64 w3,.int .u64 w4,.int .u64 w5,.int .u64 w6,.int .u64 w7,.int .u64 w8,.int .u64 w9,.int .u64 w10,.int .u64 w11,.int .u64 w12,.int .u64 w13,.int .u64 w14,.int .u64 w15] := by rw [hw]; rfl
 have rp : List.replicate 16 (AV.int .u64 0) = [.int .u64 0,.int .u64 0,.int .u64 0,.int .u64 0,.int .u64 0,.int .u64 0,.int .u64 0,.int .u64 0,.int .u64 0,.int .u64 0,.int .u64 0,.int .u64 0,.int .u64 0,.int .u64 0,.int .u64 0,.int .u64 0] := rfl
 rw [hw2,rp]
 simp only [List.cons_append,List.nil_append]
 clear hz hw hw2 rp
 by_cases ca : r.ws = ws0
 case neg =>
   rw [decide_eq_false ca] at hq
   have e : decide (r.ws = ws0 /\ (1 <= r.fr /\ r.fr <= f.i) /\ (1 <= r.to /\ r.to <= f.i) /\ (1 <= r.rc /\ r.rc <= f.r) /\ (r.fr ≠ r.to ∨ r.fk ≠ r.tk)) = false := decide_eq_false (fun h => ca h.1)
   rw [e]
   clear e ca
   simp (disch := omega) only [wk,tupled,↓reduceIte,reduceEqDiff,reduceEq,reduceAdd,reduceCtorEq,hq,runG_un,purify,unownT,lend,unown,AV.hf,hfL,Tk.hf]
 rw [decide_eq_true ca] at hq
 by_cases cb : 1 <= r.fr /\ r.fr <= f.i
 case neg =>
   rw [decide_eq_false cb] at i1
   have e : decide (r.ws = ws0 /\ (1 <= r.fr /\ r.fr <= f.i) /\ (1 <= r.to /\ r.to <= f.i) /\ (1 <= r.rc /\ r.rc <= f.r) /\ (r.fr ≠ r.to ∨ r.fk ≠ r.tk)) = false := decide_eq_false (fun h => cb h.2.1)
   rw [e]
   clear e cb
   simp (disch := omega) only [wk,tupled,↓reduceIte,reduceEqDiff,reduceEq,reduceAdd,reduceCtorEq,hq,runG_un,i1,purify,unownT,lend,unown,AV.hf,hfL,Tk.hf]
 rw [decide_eq_true cb] at i1
 by_cases cc : 1 <= r.to /\ r.to <= f.i
 case neg =>
   rw [decide_eq_false cc] at i2
   have e : decide (r.ws = ws0 /\ (1 <= r.fr /\ r.fr <= f.i) /\ (1 <= r.to /\ r.to <= f.i) /\ (1 <= r.rc /\ r.rc <= f.r) /\ (r.fr ≠ r.to ∨ r.fk ≠ r.tk)) = false := decide_eq_false (fun h => cc h.2.2.1)
   rw [e]
   clear e cc
   simp (disch := omega) only [wk,tupled,↓reduceIte,reduceEqDiff,reduceEq,reduceAdd,reduceCtorEq,hq,runG_un,i1,i2,purify,unownT,lend,unown,AV.hf,hfL,Tk.hf]
 rw [decide_eq_true cc] at i2
 by_cases cd : 1 <= r.rc /\ r.rc <= f.r
 case neg =>
   rw [decide_eq_false cd] at i3
   have e : decide (r.ws = ws0 /\ (1 <= r.fr /\ r.fr <= f.i) /\ (1 <= r.to /\ r.to <= f.i) /\ (1 <= r.rc /\ r.rc <= f.r) /\ (r.fr ≠ r.to ∨ r.fk ≠ r.tk)) = false := decide_eq_false (fun h => cd h.2.2.2.1)
   rw [e]
   clear e cd
   simp (disch := omega) only [wk,tupled,↓reduceIte,reduceEqDiff,reduceEq,reduceAdd,reduceCtorEq,hq,runG_un,i1,i2,i3,purify,unownT,lend,unown,AV.hf,hfL,Tk.hf]
 rw [decide_eq_true cd] at i3
 have e : decide (r.ws = ws0 /\ (1 <= r.fr /\ r.fr <= f.i) /\ (1 <= r.to /\ r.to <= f.i) /\ (1 <= r.rc /\ r.rc <= f.r) /\ (r.fr ≠ r.to ∨ r.fk ≠ r.tk)) = decide (r.fr ≠ r.to ∨ r.fk ≠ r.tk) := by simp only [ca,cb,cc,cd,true_and,and_self]
 rw [e]
 clear e ca cb cc cd
 by_cases g1 : r.fr = r.to
 . by_cases g2 : r.fk = r.tk
   . have e : decide (r.fr ≠ r.to ∨ r.fk ≠ r.tk) = false := decide_eq_false (by simp [g1,g2])
     rw [e]
     simp (disch := omega) only [wk,tupled,↓reduceIte,reduceEqDiff,reduceEq,reduceAdd,reduceCtorEq,hq,runG_un,i1,i2,i3,g1,g2,purify,unownT,lend,unown,AV.hf,hfL,Tk.hf]
   . have e : decide (r.fr ≠ r.to ∨ r.fk ≠ r.tk) = true := decide_eq_true (.inr g2)
     rw [e]
     simp (disch := omega) only [wk,tupled,↓reduceIte,reduceEqDiff,reduceEq,reduceAdd,reduceCtorEq,hq,runG_un,i1,i2,i3,g1,g2,purify,unownT,lend,unown,AV.hf,hfL,Tk.hf]
 . have e : decide (r.fr ≠ r.to ∨ r.fk ≠ r.tk) = true := decide_eq_true (.inl g1)
   rw [e]
   simp (disch := omega) only [wk,tupled,↓reduceIte,reduceEqDiff,reduceEq,reduceAdd,reduceCtorEq,hq,runG_un,i1,i2,i3,g1,purify,unownT,lend,unown,AV.hf,hfL,Tk.hf]
theorem mayB_1 {f : Frm} {r : Redo} (h : r.k = 1) : mayB f r ↔ fileW r.ws = true /\ r = bareR r := by
 obtain ⟨k,i,ws,fr,to,fk,tk,rc,dir⟩ := r
 dsimp only at h
 subst h
 unfold mayB bareR
 simp only [Redo.mk.injEq,true_and]
 constructor
 . rintro (⟨a,h⟩ | h)
   . exact ⟨a,by simpa using h⟩
   . omega
 . rintro ⟨a,h⟩
   exact .inl ⟨a,by simpa using h⟩
theorem mayB_2 {f : Frm} {r : Redo} (h : r.k = 2) : mayB f r ↔ r.ws = ws0 /\ (1 <= r.fr /\ r.fr <= f.i) /\ (1 <= r.to /\ r.to <= f.i) /\ (1 <= r.rc /\ r.rc <= f.r) /\ (r.fr ≠ r.to ∨ r.fk ≠ r.tk) := by
 unfold mayB
 constructor
 . rintro (h1 | h1)
   . omega
   . exact h1.2
 . exact fun h1 => .inr ⟨h,h1⟩
def kdR (r : Redo) : AV := if r.k = 1 then kd1 else kd2
theorem red_lit {r : Redo} (ht : RedT r) : ∃ w0 w1 w2 w3 w4 w5 w6 w7 w8 w9 w10 w11 w12 w13 w14 w15,redA r = [.int .i64 r.k,.int .i64 r.i,.int .u64 w0,.int .u64 w1,.int .u64 w2,.int .u64 w3,.int .u64 w4,.int .u64 w5,.int .u64 w6,.int .u64 w7,.int .u64 w8,.int .u64 w9,.int .u64 w10,.int .u64 w11,.int .u64 w12,.int .u64 w13,.int .u64 w14,.int .u64 w15,.int .i64 r.fr,.int .i64 r.to,.int .u64 r.fk,.int .u64 r.tk,.int .i64 r.rc,.bool r.dir] := by
 obtain ⟨w0,w1,w2,w3,w4,w5,w6,w7,w8,w9,w10,w11,w12,w13,w14,w15,hw⟩ := sixteen ht.wl
 refine ⟨w0,w1,w2,w3,w4,w5,w6,w7,w8,w9,w10,w11,w12,w13,w14,w15, ?_⟩
 unfold redA
 rw [hw]
 rfl
theorem jright_no {f : Frm} {c d e g : Int} (h : ¬ okL f c d e g) (k0 k1 : Int) (r : Redo) (ht : RedT r) (H : Heap) : pcx (cbL tab) 66 [.agg (lyA f k0 k1 c d e g),.agg (redA r)] H = some (panJ 2) := by
 have sp := fun H => jlaid_no h k0 k1 H
 clear h
 have e1 : lend (.agg (lyA f k0 k1 c d e g)) = .agg (lyA f k0 k1 c d e g) := rfl
 have e2 : lend (.agg (redA r)) = .agg (redA r) := by show AV.agg ((redA r).map unown) = _; rw [lend_redA]
 have hr := hf_redA r
 refine pcx_N rfl (pc_wp (fi := c66) rfl ?_ (by simp [c66]) (by decide) ?_)
 . show hfL [lend _,lend _] = true
   rw [e1,e2]
   simp only [hfL,AV.hf,hr]
   rfl
 rw [List.map_cons,List.map_cons,List.map_nil,e1,e2]
 clear e1 e2 hr
 obtain ⟨w0,w1,w2,w3,w4,w5,w6,w7,w8,w9,w10,w11,w12,w13,w14,w15,hw⟩ := red_lit ht
 rw [hw]
 have pj : ∀ H : Heap,purify (some (.pan [(.iface 37 (.int .i64 2),false)],H)) = some (panJ 2) := fun H => rfl
 unfold panJ at sp
 unfold c66
 unfold lyA frmA at sp ⊢
 simp only [List.cons_append,List.nil_append] at sp ⊢
 simp (disch := omega) only [wk,tupled,↓reduceIte,reduceEqDiff,reduceEq,reduceAdd,reduceCtorEq,sp,pj]
theorem jright_px {f : Frm} (h : okF f) {k0 k1 : Int} (h0 : U64 k0) (h1 : U64 k1) (r : Redo) (ht : RedT r) (H : Heap) : pcx (cbL tab) 66 [.agg (layA f k0 k1),.agg (redA r)] H = some (if mayR f r then .plain (kdR r) else panJ 310) := by
 have sp := fun H => jlaid_ok h h0 h1 H
 clear h
 have e1 : lend (.agg (layA f k0 k1)) = .agg (layA f k0 k1) := rfl
 have e2 : lend (.agg (redA r)) = .agg (redA r) := by show AV.agg ((redA r).map unown) = _; rw [lend_redA]
 have hr := hf_redA r
 refine pcx_N rfl (pc_wp (fi := c66) rfl ?_ (by simp [c66]) (by decide) ?_)
 . show hfL [lend _,lend _] = true
   rw [e1,e2]
   simp only [hfL,AV.hf,hr]
   rfl
 rw [List.map_cons,List.map_cons,List.map_nil,e1,e2]
 clear e1 e2 hr
 obtain ⟨w0,w1,w2,w3,w4,w5,w6,w7,w8,w9,w10,w11,w12,w13,w14,w15,hw⟩ := red_lit ht
 have m1 := fun H => jmay1_px f r ht H
 have m2 := fun H => jmay2_px f r ht H
 unfold undA at m1 m2
 rw [hw] at m1 m2 ⊢
 have pj : ∀ H : Heap,purify (some (.pan [(.iface 37 (.int .i64 310),false)],H)) = some (panJ 310) := fun H => rfl
 have kp := fun H => jkinds_px H
 have ip := fun H => jin_px r.i 1 f.i H
 have mt := fun H => jmust_t 310 H
 have mf := fun H => jmust_f 310 H
 have f1 := jfind1
 have f2 := jfind2
 unfold panJ at mf
 unfold kd1 at f1
 unfold kd2 at f2
 unfold c66
 unfold layA frmA at sp ⊢
 unfold frmA at m1 m2
 simp only [List.cons_append,List.nil_append] at sp m1 m2 ⊢
 by_cases c1 : r.k = 1
 . have hmb := mayB_1 (f := f) c1
   by_cases c2 : 1 <= r.i /\ r.i <= f.i
   case neg =>
     have hm : ¬ mayR f r := fun h => c2 h.1
     rw [if_neg hm]
     rw [decide_eq_false c2] at ip
     clear hm c2 hmb
     simp (disch := omega) only [wk,tupled,↓reduceIte,reduceEqDiff,reduceEq,reduceAdd,reduceCtorEq,sp,kp,List.getElem?_nil,c1,f1,cellEq_ii,ip,mf,pj]
   rw [decide_eq_true c2] at ip
   by_cases c3 : fileW r.ws = true /\ r = bareR r
   . have hm : mayR f r := ⟨c2,hmb.2 c3⟩
     rw [if_pos hm]
     rw [decide_eq_true c3] at m1
     have ek : kdR r = kd1 := if_pos c1
     rw [ek]
     unfold kd1
     rw [c1] at m1
     clear hm c2 hmb c3 hw ek
     simp (disch := omega) only [wk,tupled,↓reduceIte,reduceEqDiff,reduceEq,reduceAdd,reduceCtorEq,sp,kp,List.getElem?_nil,c1,f1,cellEq_ii,ip,m1,mt,purify,unownT,lend,unown,AV.hf,hfL,Tk.hf]
   . have hm : ¬ mayR f r := fun h => c3 (hmb.1 h.2)
     rw [if_neg hm]
     rw [decide_eq_false c3] at m1
     rw [c1] at m1
     clear hm c2 hmb c3 hw
     simp (disch := omega) only [wk,tupled,↓reduceIte,reduceEqDiff,reduceEq,reduceAdd,reduceCtorEq,sp,kp,List.getElem?_nil,c1,f1,cellEq_ii,ip,m1,mf,pj]
 by_cases c2 : r.k = 2
 . have hmb := mayB_2 (f := f) c2
   by_cases c3 : 1 <= r.i /\ r.i <= f.i
   case neg =>
     have hm : ¬ mayR f r := fun h => c3 h.1
     rw [if_neg hm]
     rw [decide_eq_false c3] at ip
     clear hm c3 hmb c1
     simp (disch := omega) only [wk,tupled,↓reduceIte,reduceEqDiff,reduceEq,reduceAdd,reduceCtorEq,sp,kp,List.getElem?_nil,c2,f2,cellEq_ii,ip,mf,pj]
   rw [decide_eq_true c3] at ip
   by_cases c4 : r.ws = ws0 /\ (1 <= r.fr /\ r.fr <= f.i) /\ (1 <= r.to /\ r.to <= f.i) /\ (1 <= r.rc /\ r.rc <= f.r) /\ (r.fr ≠ r.to ∨ r.fk ≠ r.tk)
   . have hm : mayR f r := ⟨c3,hmb.2 c4⟩
     rw [if_pos hm]
     rw [decide_eq_true c4] at m2
     have ek : kdR r = kd2 := if_neg c1
     rw [ek]
     unfold kd2
     rw [c2] at m2
     clear hm c3 hmb c4 hw ek c1
     simp (disch := omega) only [wk,tupled,↓reduceIte,reduceEqDiff,reduceEq,reduceAdd,reduceCtorEq,sp,kp,List.getElem?_nil,c2,f2,cellEq_ii,ip,m2,mt,purify,unownT,lend,unown,AV.hf,hfL,Tk.hf]
   . have hm : ¬ mayR f r := fun h => c4 (hmb.1 h.2)
     rw [if_neg hm]
     rw [decide_eq_false c4] at m2
     rw [c2] at m2
     clear hm c3 hmb c4 hw c1
     simp (disch := omega) only [wk,tupled,↓reduceIte,reduceEqDiff,reduceEq,reduceAdd,reduceCtorEq,sp,kp,List.getElem?_nil,c2,f2,cellEq_ii,ip,m2,mf,pj]
 have hm : ¬ mayR f r := fun h => by rcases mayB_k h.2 with h | h; exact c1 h; exact c2 h
 rw [if_neg hm]
 have fn := jfind_no c1 c2
 clear hm c1 c2 hw
 simp (disch := omega) only [wk,tupled,↓reduceIte,reduceEqDiff,reduceEq,reduceAdd,reduceCtorEq,sp,kp,List.getElem?_nil,fn,cellEq_ii,mf,pj]
theorem jclear0 (H : Heap) : enterA (cbL tab) 65 [] H = some (.ret (.tup []),H) := by
 have : pcx (cbL tab) 65 [] H = some (.plain (.tup [])) := by
   refine pcx_N rfl (pc_wp (fi := c65) rfl rfl (by simp [c65]) (by decide) ?_)
   unfold c65
   rw [List.map_nil]
   simp (disch := omega) only [wk,tupled,↓reduceIte,reduceEqDiff,reduceEq,reduceAdd,reduceCtorEq,purify,unownT,lend,unown,AV.hf,hfL]
 exact enterA_plain this
end Go.Proofs.YtogbblcnfcfflaaGreat
namespace Go.Am
open Go
def rowsA : List AV -> Option (List (List AV))
 | [] => some []
 | .sl s n cs _ :: r => if (n = 0 ∨ s = 1) /\ n * 1 <= cs.length then (rowsA r).map (cs.take (n * 1) :: ·) else none
 | _ => none
def concC : List AV -> Option PR
 | [.sl 1 n cs _] => match rowsA (cs.take n) with
   | some L => if 0 < n /\ n <= cs.length /\ n <= 4294967296 /\ L.flatten.length <= 4294967296 then some (if L.flatten = [] then .plain (.sl 0 0 [] .z) else .fresh 1 (L.flatten.length / 1) L.flatten) else none
   | none => none
 | _ => none
end Go.Am
namespace Go.Proofs.YtogbblcnfcfflaaGreat
open Go Go.Am Go.Rec Go.Ino
structure Ly where
 k0 : Int
 k1 : Int
 c : Int
 d : Int
 e : Int
 g : Int
def lyV (f : Frm) (y : Ly) : AV := .agg (lyA f y.k0 y.k1 y.c y.d y.e y.g)
def okY (f : Frm) (y : Ly) : Prop := okL f y.c y.d y.e y.g
instance (f : Frm) (y : Ly) : Decidable (okY f y) := inferInstanceAs (Decidable (okL _ _ _ _ _))
structure LyT (y : Ly) : Prop where
 k0 : U64 y.k0
 k1 : U64 y.k1
theorem lyV_ok {f : Frm} {y : Ly} (h : okY f y) : lyV f y = .agg (layA f y.k0 y.k1) := by unfold lyV; rw [ly_ok h]
theorem lend_lyV (f : Frm) (y : Ly) : lend (lyV f y) = lyV f y := rfl
theorem hf_lyV (f : Frm) (y : Ly) : (lyV f y).hf = true := rfl
theorem lend_redV (r : Redo) : lend (.agg (redA r)) = .agg (redA r) := by show AV.agg ((redA r).map unown) = _; rw [lend_redA]
theorem hf_redV (r : Redo) : (AV.agg (redA r)).hf = true := hf_redA r
def checkJ (f : Frm) (y : Ly) (r : Redo) : Int := if okY f y then (if mayR f r then 0 else 310) else 2
def rightJ (f : Frm) (y : Ly) (r : Redo) : PR := if okY f y then (if mayR f r then .plain (kdR r) else panJ 310) else panJ 2
theorem jright_all {f : Frm} {y : Ly} (hy : LyT y) {r : Redo} (ht : RedT r) (H : Heap) : pcx (cbL tab) 66 [lyV f y,.agg (redA r)] H = some (rightJ f y r) := by
 unfold rightJ
 by_cases h : okY f y
 . rw [if_pos h,lyV_ok h]
   exact jright_px h.1 hy.k0 hy.k1 r ht H
 . rw [if_neg h]
   exact jright_no h y.k0 y.k1 r ht H
theorem rightJ_1 {f : Frm} {y : Ly} {r : Redo} (h : checkJ f y r = 0) : okY f y /\ mayR f r /\ rightJ f y r = .plain (kdR r) := by
 unfold checkJ at h
 unfold rightJ
 split at h
 . rename_i h1
   split at h
   . rename_i h2; exact ⟨h1,h2,by rw [if_pos h1,if_pos h2]⟩
   . cases h
 . cases h
theorem rightJ_0 {f : Frm} {y : Ly} {r : Redo} (h : ¬ checkJ f y r = 0) : rightJ f y r = panJ (checkJ f y r) := by
 unfold checkJ at h ⊢
 unfold rightJ
 split at h
 . rename_i h1
   split at h
   . exact absurd rfl h
   . rename_i h2; rw [if_pos h1,if_neg h2,if_pos h1,if_neg h2]
 . rename_i h1; rw [if_neg h1,if_neg h1]
theorem jcheck_px {f : Frm} {y : Ly} (hy : LyT y) {r : Redo} (ht : RedT r) (H : Heap) : pcx (cbL tab) 36 [lyV f y,.agg (redA r)] H = some (.plain (.int .i64 (checkJ f y r))) := by
 refine pcx_N rfl (pc_wp (fi := c36) rfl ?_ (by simp [c36]) (by decide) ?_)
 . simp only [pcOn,List.map_cons,List.map_nil,hfL,hf_lend_sl,hf_lend_int,hf_lend_bool,hf_lend_str,hfL_append,Bool.and_self,Bool.and_true,Bool.true_and,c36,lend_lyV,lend_redV,hf_lyV,hf_redV]
 rw [List.map_cons,List.map_cons,List.map_nil,lend_lyV,lend_redV]
 have rp := fun H => jright_all (f := f) hy ht H
 obtain ⟨w0,w1,w2,w3,w4,w5,w6,w7,w8,w9,w10,w11,w12,w13,w14,w15,hw⟩ := red_lit ht
 rw [hw] at rp ⊢
 unfold c36
 unfold lyV lyA frmA at rp ⊢
 simp only [List.cons_append,List.nil_append] at rp ⊢
 by_cases h : checkJ f y r = 0
 . obtain ⟨h1,h2,h3⟩ := rightJ_1 h
   rw [h3] at rp
   rw [h]
   have hk : ∃ a b c d,kdR r = .agg [.int .i64 a,.fn b [],.fn c [],.fn d []] := by
     unfold kdR
     split
     . exact ⟨_,_,_,_,rfl⟩
     . exact ⟨_,_,_,_,rfl⟩
   obtain ⟨a,b,c,d,hk⟩ := hk
   rw [hk] at rp
   clear h1 h2 h3 h hk hw
   simp (disch := omega) only [wk,tupled,↓reduceIte,reduceEqDiff,reduceEq,reduceAdd,reduceCtorEq,rp]
   rw [ends_left_ret (jcaught_ret _ _ _ _)]
   simp (disch := omega) only [wk,tupled,↓reduceIte,reduceEqDiff,reduceEq,reduceAdd,reduceCtorEq,purify,unownT,lend,unown,AV.hf,hfL,Tk.hf]
 . rw [rightJ_0 h] at rp
   unfold panJ at rp
   clear h hw
   simp (disch := omega) only [wk,tupled,↓reduceIte,reduceEqDiff,reduceEq,reduceAdd,reduceCtorEq,rp]
   rw [ends_left_pan (jcaught_pan 2 _ _ _ _ _ _ _ (jclear0 _) rfl)]
   simp (disch := omega) only [wk,tupled,↓reduceIte,reduceEqDiff,reduceEq,reduceAdd,reduceCtorEq,purify,unownT,lend,unown,AV.hf,hfL,Tk.hf]
theorem rmust_t (e : Int) (H : Heap) : pcx (cbL tab) 30 [.bool true,.int .i64 e] H = some (.plain (.tup [])) := by
 refine pcx_N rfl (pc_wp (fi := c30) rfl rfl (by simp [c30]) (by decide) ?_)
 unfold c30
 have lb : lend (.bool true) = .bool true := rfl
 rw [List.map_cons,List.map_cons,List.map_nil,lb,lend_int]
 simp (disch := omega) only [wk,tupled,↓reduceIte,reduceEqDiff,reduceEq,reduceAdd,reduceCtorEq,purify,unownT,lend,unown,AV.hf,hfL]
theorem rmust_f (e : Int) (H : Heap) : pcx (cbL tab) 30 [.bool false,.int .i64 e] H = some (panJ e) := by
 refine pcx_N rfl (pc_wp (fi := c30) rfl rfl (by simp [c30]) (by decide) ?_)
 unfold c30 panJ
 have lb : lend (.bool false) = .bool false := rfl
 rw [List.map_cons,List.map_cons,List.map_nil,lb,lend_int]
 simp (disch := omega) only [wk,tupled,↓reduceIte,reduceEqDiff,reduceEq,reduceAdd,reduceCtorEq,purify,unownT,lend,unown,AV.hf,hfL]
theorem rcaught_ret (a : Nat) (f : FuncId) (caps : List AV) (H : Heap) : leaveA tab (cbL tab) [.call 28 [.ptr a 0,.fn f caps]] .returning H = some (.returning,H) := by
 rfl
theorem rcaught_pan (a : Nat) (f : FuncId) (caps : List AV) (H H1 : Heap) (e : Int) (y v : AV) (h : enterA (cbL tab) f caps H = some (.ret v,H1)) (hy : H1[a]? = some (.cells [y])) :
   leaveA tab (cbL tab) [.call 28 [.ptr a 0,.fn f caps]] (.panicking [(.iface 37 (.int .i64 e),false)]) H = some (.returning,H1.set a (.cells [.int .i64 e])) := by
 have ht : tab 28 = some c28 := rfl
 simp [leaveA,ht,bodyD,c28,acodeD,aregionD,hasRecov,acode,aregion,aval,aact,putD,X.ev,fr0,wantedA,binV,eqV,unV,h,hy,AV.flat,allOne,AV.one,resA,settleA,isNili]
theorem rclear_puts (a : Nat) (H : Heap) (x : AV) (hx : H[a]? = some (.cells [x])) : enterA (cbL tab) 35 [.ptr a 0] H = some (.ret (.tup []),H.set a (.cells [.sl 0 0 [] .z])) := by
 have : ∃ q H',(cbL tab).ic 35 [.ptr a 0] H = some (q,H') /\ q = .ret (.tup []) /\ H' = H.set a (.cells [.sl 0 0 [] .z]) := by
   refine ic_wp (fi := c35) rfl rfl (by simp [c35]) (by decide) ?_
   unfold c35
   simp (disch := omega) only [wk,tupled,↓reduceIte,reduceEqDiff,reduceEq,reduceAdd,reduceCtorEq,hx,List.append_nil]
 obtain ⟨q,H',h,rfl,rfl⟩ := this
 exact enterA_ic rfl (pc_none (fi := c35) rfl rfl) h
theorem clone_pc (W : List Int) (hn : W.length <= 1000000) (h0 : W ≠ []) (H : Heap) : pcx (cbL tab) 37 [.sl 1 W.length (encs u64A W) .ro] H = some (.fresh 1 W.length (encs u64A W)) := by
 have hl := lenU W
 have hc := hf_u64A W
 have h1 := one_u64A W
 have hsc : (encs u64A W).all (·.scal) = true := by
   rw [List.all_eq_true]
   intro x hx
   obtain ⟨y,_,hy⟩ := List.mem_flatMap.1 hx
   simp only [u64A,List.mem_singleton] at hy
   subst hy
   rfl
 have h00 : W.length ≠ 0 := fun e => h0 (List.eq_nil_of_length_eq_zero e)
 have lk : lendK H 4 (.sl 1 W.length (encs u64A W) .ro) = .sl 1 W.length (encs u64A W) .ro := lendK_sl ..
 unfold pcx
 rw [if_pos (show (cbL tab).lent 37 = true from rfl)]
 unfold enterL
 rw [List.map_cons,List.map_nil,lk]
 have : (cbL tab).pc 37 [.sl 1 W.length (encs u64A W) .ro] = some (.fresh 1 W.length (encs u64A W)) := by
   refine pc_wp (fi := c37) rfl ?_ (by simp [c37]) (by decide) ?_
   . simp only [pcOn,List.map_cons,List.map_nil,hfL,hf_lend_sl,hf_lend_int,hf_lend_bool,hf_lend_str,hfL_append,Bool.and_self,Bool.and_true,Bool.true_and,c37,hc]
   unfold c37
   have e1 : lend (.sl 1 W.length (encs u64A W) .ro) = .sl 1 W.length (encs u64A W) .ro := rfl
   rw [List.map_cons,List.map_nil,e1]
   generalize encs u64A W = cs at *
   generalize W.length = n at *
   have a1 : appV 1 8 (.sl 1 0 [] .e) (.sl 1 n cs .ro) [] = some (.val (.sl 1 n cs (.own 0)),[.tok 1]) := by
     have ht : cs.take n = cs := List.take_of_length_le (by omega)
     have g1 : (0 + n) * 8 <= 70368744177664 := by omega
     have g2 : 0 + n <= 70368744177664 := by omega
     simp [appV,h00,ht,h1,hl]
     omega
   have eqn : ∀ (xo yo : X),binV .eql .slice xo yo (.sl 1 n cs .ro) (.sl 0 0 [] .z) = some (.bool false) := fun _ _ => rfl
   simp (disch := omega) only [wk,tupled,↓reduceIte,reduceEqDiff,reduceEq,reduceAdd,reduceCtorEq,a1,eqn,purify,hc]
 rw [this]
 simp only [hsc,if_true]
def dI (W : List Int) (A : Nat) : Nat -> List Int -> List (Int × Int)
 | _,[] => []
 | j,y :: ys => (if W.getD (A + j) 0 = y then [] else [(((A + j : Nat) : Int),y)]) ++ dI W A (j + 1) ys
theorem dI_append (W : List Int) (A : Nat) : ∀ (xs : List Int) (j : Nat) (y : Int),dI W A j (xs ++ [y]) = dI W A j xs ++ (if W.getD (A + (j + xs.length)) 0 = y then [] else [(((A + (j + xs.length) : Nat) : Int),y)])
 | [],j,y => by simp [dI]
 | x :: xs,j,y => by
   rw [List.cons_append,dI,dI,dI_append W A xs (j + 1) y,List.append_assoc,List.length_cons]
   have e : j + 1 + xs.length = j + (xs.length + 1) := by omega
   rw [e]
theorem dI_mem {W : List Int} {A : Nat} : ∀ {ys : List Int} {j : Nat} {p : Int × Int},p ∈ dI W A j ys -> ∃ i,p.1 = ((A + j + i : Nat) : Int) /\ i < ys.length /\ ys[i]? = some p.2
 | [],_,_,h => by simp [dI] at h
 | y :: ys,j,p,h => by
   rw [dI,List.mem_append] at h
   rcases h with h | h
   . split at h
     . simp at h
     . simp only [List.mem_singleton] at h
       subst h
       exact ⟨0,by simp,by simp,rfl⟩
   . obtain ⟨i,h1,h2,h3⟩ := dI_mem h
     exact ⟨i + 1,by rw [h1]; congr 1; omega,by simpa using h2,by simpa using h3⟩
theorem dI_len {W : List Int} {A : Nat} : ∀ (ys : List Int) (j : Nat),(dI W A j ys).length <= ys.length
 | [],_ => by simp [dI]
 | y :: ys,j => by
   rw [dI,List.length_append,List.length_cons]
   have := dI_len (W := W) (A := A) ys (j + 1)
   split <;> simp <;> omega
theorem stW_get (W : List Int) : ∀ (l : List (Int × Int)) (i : Nat),(∀ p ∈ l,p.1.toNat ≠ i) -> (stW W l)[i]? = W[i]?
 | [],_,_ => rfl
 | p :: l,i,h => by
   show (stW (W.set p.1.toNat p.2) l)[i]? = _
   rw [stW_get _ l i (fun q hq => h q (List.mem_cons_of_mem _ hq)),List.getElem?_set_ne (h p (List.mem_cons_self ..))]
theorem getD_of {W V : List Int} {i : Nat} (h : W[i]? = V[i]?) : W.getD i 0 = V.getD i 0 := by rw [List.getD_eq_getElem?_getD,List.getD_eq_getElem?_getD,h]
theorem dI_congr {W V : List Int} {A : Nat} : ∀ (ys : List Int) (j : Nat),(∀ i,A + j <= i -> W[i]? = V[i]?) -> dI W A j ys = dI V A j ys
 | [],_,_ => rfl
 | y :: ys,j,h => by
   rw [dI,dI,getD_of (h _ (Nat.le_refl _)),dI_congr ys (j + 1) (fun i hi => h i (by omega))]
theorem dI_behind {W : List Int} {A : Nat} (pre : List Int) (j i : Nat) (h : A + j + pre.length <= i) : (stW W (dI W A j pre))[i]? = W[i]? := by
 refine stW_get _ _ _ (fun p hp => ?_)
 obtain ⟨k,h1,h2,_⟩ := dI_mem hp
 omega
theorem dI_done {A : Nat} : ∀ (ys : List Int) (j : Nat) (W : List Int),A + j + ys.length <= W.length -> ∀ i,i < ys.length -> (stW W (dI W A j ys))[A + j + i]? = ys[i]?
 | [],_,_,_,i,h => by simp at h
 | y :: ys,j,W,hl,i,h => by
   rw [List.length_cons] at hl h
   rw [dI,stW_append]
   obtain ⟨V,hV⟩ : ∃ V,V = stW W (if W.getD (A + j) 0 = y then [] else [(((A + j : Nat) : Int),y)]) := ⟨_,rfl⟩
   have vl : V.length = W.length := by rw [hV,stW_len]
   have v0 : V[A + j]? = some y := by
     rw [hV]
     split
     . rename_i he
       show W[A + j]? = _
       rw [List.getD_eq_getElem?_getD,List.getElem?_eq_getElem (by omega),Option.getD_some] at he
       rw [List.getElem?_eq_getElem (by omega),he]
     . show (W.set ((A + j : Nat) : Int).toNat y)[A + j]? = _
       rw [Int.toNat_natCast,List.getElem?_set_self (by omega)]
   have vo : ∀ i,A + (j + 1) <= i -> W[i]? = V[i]? := by
     intro i hi
     rw [hV]
     split
     . rfl
     . show _ = (W.set ((A + j : Nat) : Int).toNat y)[i]?
       rw [Int.toNat_natCast,List.getElem?_set_ne (by omega)]
   rw [<- hV,dI_congr ys (j + 1) vo]
   cases i with
   | zero =>
     rw [Nat.add_zero,List.getElem?_cons_zero,<- v0]
     refine stW_get _ _ _ (fun p hp => ?_)
     obtain ⟨k,h1,h2,_⟩ := dI_mem hp
     omega
   | succ i =>
     have := dI_done (A := A) ys (j + 1) V (by omega) i (by omega)
     rw [List.getElem?_cons_succ,<- this,show A + (j + 1) + i = A + j + (i + 1) from by omega]
theorem dI_none {W : List Int} {A : Nat} : ∀ (ys : List Int) (j : Nat),(∀ i,i < ys.length -> W[A + j + i]? = ys[i]?) -> dI W A j ys = []
 | [],_,_ => rfl
 | y :: ys,j,h => by
   have h0 := h 0 (by simp)
   rw [Nat.add_zero,List.getElem?_cons_zero] at h0
   rw [dI,if_pos (by rw [List.getD_eq_getElem?_getD,h0]; rfl),dI_none ys (j + 1) (fun i hi => by
     have := h (i + 1) (by simpa using hi)
     rw [List.getElem?_cons_succ] at this
     rw [<- this]; congr 1; omega)]
   rfl
def kn0 : FuncId -> List AV -> Option PR := fun _ _ => none
theorem kn0_ok : ∀ f args r,kn0 f args = some r -> (cbL tab).pc f args = some r := fun _ _ _ h => by cases h
theorem ev0 {f : FuncId} {args : List AV} {r : PR} (n : Nat) (hl : (cbL tab).lent f = false) (h : (cbsK tab kn0 n).pc f args = some r) (H : Heap) : pcx (cbL tab) f args H = some r := pcx_N hl (pc_run kn0_ok n h)
theorem inodeAt_ev : ∀ n,n < 8 -> ∀ H,pcx (cbL tab) 39 [.agg layD,.int .i64 ((n + 1 : Nat) : Int)] H = some (.plain (.tup [.int .i64 ((576 + 16 * n : Nat) : Int),.int .i64 0]))
 | 0,_,H => ev0 60 rfl (by kernel_rfl) H
 | 1,_,H => ev0 60 rfl (by kernel_rfl) H
 | 2,_,H => ev0 60 rfl (by kernel_rfl) H
 | 3,_,H => ev0 60 rfl (by kernel_rfl) H
 | 4,_,H => ev0 60 rfl (by kernel_rfl) H
 | 5,_,H => ev0 60 rfl (by kernel_rfl) H
 | 6,_,H => ev0 60 rfl (by kernel_rfl) H
 | 7,_,H => ev0 60 rfl (by kernel_rfl) H
 | n + 8,h,_ => absurd h (by omega)
theorem in_does (a b : Nat) (r : List AV) (H : Heap) : pcx (cbL tab) 40 (.ptr a b :: r) H = none :=
 pcx_none rfl (pc_none (fi := c40) rfl (by simp [pcOn,c40,hfL,AV.hf,lend,unown]))
theorem ll_does : (cbL tab).lent 40 = false := rfl
theorem inodeway_ic {H : Heap} {W : List Int} {r : Redo} (ht : RedT r) (hU : UAt H 5 4 W []) (hW : W.length = 4096) (h0 : H[0]? = some (.cells layD)) (h1 : H[1]? = some (.cells (redA r))) (h6 : H[6]? = some (.cells [.ptr 5 0])) {n : Nat} (hn : n < 8) (hi : r.i = ((n + 1 : Nat) : Int)) :
   ∃ H',(cbL tab).ic 38 [.ptr 0 0,.ptr 1 0,.ptr 6 0] H = some (.ret (.tup []),H') /\ UAt H' 5 4 (stW W (dI W (576 + 16 * n) 0 r.ws)) (dI W (576 + 16 * n) 0 r.ws) /\ UKeep 5 4 H H' := by
 have key : ∃ o H',(cbL tab).ic 38 [.ptr 0 0,.ptr 1 0,.ptr 6 0] H = some (o,H') /\ o = .ret (.tup []) /\ UAt H' 5 4 (stW W (dI W (576 + 16 * n) 0 r.ws)) (dI W (576 + 16 * n) 0 r.ws) /\ UKeep 5 4 H H' := by
   refine ic_wp (fi := c38) rfl rfl (by simp [c38]) (by decide) ?_
   unfold c38
   have sp := inodeAt_ev n hn
   have r1 : (redA r)[1]? = some (.int .i64 ((n + 1 : Nat) : Int)) := by rw [<- hi]; rfl
   have r2 : List.take 16 (List.drop 2 (redA r)) = encs u64A r.ws := by
     show List.take 16 (encs u64A r.ws ++ _) = _
     rw [List.take_append_of_le_length (by rw [lenU,ht.wl]; exact Nat.le_refl _),List.take_of_length_le (by rw [lenU,ht.wl]; exact Nat.le_refl _)]
   have r3 : (redA r).length = 24 := by simp [redA,lenU,ht.wl]
   obtain ⟨A,hA⟩ : ∃ A,A = 576 + 16 * n := ⟨_,rfl⟩
   rw [<- hA] at sp ⊢
   obtain ⟨q,hq⟩ : ∃ q : Int,q = ((n + 1 : Nat) : Int) := ⟨_,rfl⟩
   rw [<- hq] at sp r1
   have l24 : List.take 10 layD = layD := rfl
   have lll : layD.length = 10 := rfl
   generalize redA r = R at *
   generalize hlay : layD = L0 at sp h0 l24 lll
   simp (disch := omega) only [wk,tupled,↓reduceIte,reduceEqDiff,reduceEq,reduceAdd,reduceCtorEq,h0,h1,h6,r1,r2,r3,sp,l24,lll,Nat.zero_add]
   have hA1 : A <= 688 := by omega
   refine loop_ind (fun (x : List Int × List Int) E df H' => r.ws = x.1 ++ x.2 /\ E 2 = .ptr 6 0 /\ E 3 = .int .i64 ((A : Nat) : Int) /\ E 15 = .agg (encs u64A r.ws) /\ E 16 = .int .i64 ((x.1.length : Nat) : Int) /\ df = [] ∧
       UAt H' 5 4 (stW W (dI W A 0 x.1)) (dI W A 0 x.1) /\ UKeep 5 4 H H')
     (fun x => x.2.length) ([],r.ws) (by decide) (.inl rfl) ⟨rfl,by simp only [en,↓reduceIte,reduceEqDiff],by simp only [en,↓reduceIte,reduceEqDiff],by simp only [en,↓reduceIte,reduceEqDiff],by simp only [en,↓reduceIte,reduceEqDiff]; rfl,rfl,hU,.refl 5 4 H⟩ ?_
   intro ⟨pre,suf⟩ E df H1 ih hP
   obtain ⟨a1,E2,E3,E15,E16,hdf,gU,gK⟩ := hP
   dsimp only at a1 E16 gU
   subst hdf
   have hll : 16 = pre.length + suf.length := by rw [<- ht.wl,a1,List.length_append]
   cases suf with
   | nil =>
     simp only [List.append_nil,List.length_nil,Nat.add_zero] at a1 hll
     have hl16 : ¬ ((pre.length : Nat) : Int) < 16 := by omega
     simp (disch := omega) only [wk,tupled,↓reduceIte,reduceEqDiff,reduceEq,reduceAdd,reduceCtorEq,E2,E3,E15,E16,hl16]
     rw [a1]
     exact ⟨gU,gK⟩
   | cons y s =>
     simp only [List.length_cons] at hll
     have hl16 : ((pre.length : Nat) : Int) < 16 := by omega
     have hU2 := gU
     obtain ⟨gne,gw,v,gu,gown,gv⟩ := gU
     have g6 := gK.keep 6 _ (by decide) (by decide) (by intro s e; cases e) h6
     have W1l : (stW W (dI W A 0 pre)).length = 4096 := by rw [stW_len,hW]
     have hb := dI_behind (W := W) (A := A) pre 0 (A + pre.length) (by omega)
     have hd := dI_append W A pre 0 y
     rw [Nat.zero_add] at hd
     obtain ⟨V,hV⟩ : ∃ V,V = stW W (dI W A 0 pre) := ⟨_,rfl⟩
     rw [<- hV] at W1l hb gw gu hU2
     have hx : (encs u64A r.ws)[pre.length]? = some (.int .u64 y) := by
       rw [a1,encs_append,List.getElem?_append_right (by rw [lenU]; omega),lenU,Nat.sub_self]
       rfl
     have hc : (encs u64A V)[A + pre.length]? = some (.int .u64 (W.getD (A + pre.length) 0)) := by
       have hlt : A + pre.length < V.length := by omega
       rw [getU V _ hlt,getD_of hb]
     have hm : stW W (dI W A 0 (pre ++ [y])) = if W.getD (A + pre.length) 0 = y then V else stW V [(((A + pre.length : Nat) : Int),y)] := by
       rw [hd,stW_append,<- hV]
       split <;> rfl
     have lV := lenU V
     unfold layD at gu
     simp only [List.cons_append,List.nil_append] at gu
     have tN : ((A : Int) + (pre.length : Nat)).toNat = A + pre.length := by omega
     by_cases hy : W.getD (A + pre.length) 0 = y
     . rw [if_pos hy] at hd hm
       rw [List.append_nil] at hd
       simp (disch := omega) only [wk,tupled,↓reduceIte,reduceEqDiff,reduceEq,reduceAdd,reduceCtorEq,E2,E3,E15,E16,hl16,hx,g6,gu,gw,lV,tN,hc,hy,Nat.zero_add]
       refine ih (pre ++ [y],s) _ _ _ (by simp) ?_
       refine ⟨by simp [a1],by simp only [en,↓reduceIte,reduceEqDiff,E2],by simp only [en,↓reduceIte,reduceEqDiff,E3],by simp only [en,↓reduceIte,reduceEqDiff,E15],by simp only [en,↓reduceIte,reduceEqDiff],rfl, ?_,gK⟩
       rw [hm,hd]
       exact hU2
     . rw [if_neg hy] at hd hm
       obtain ⟨H2,q1,q2,q3⟩ := does_ic hU2 (by omega) (by have := dI_len (W := W) (A := A) pre 0; omega) (A : Int) ⟨by omega,by omega⟩ [((pre.length : Nat),y)] (by simp) (fun p hp => by
         rw [List.mem_singleton] at hp
         subst hp
         exact ⟨by dsimp only; omega,by dsimp only; omega,by dsimp only; omega⟩) 2 .ro (fun _ => rfl)
       have em : mvP (A : Int) [((pre.length : Nat),y)] = [(((A + pre.length : Nat) : Int),y)] := by
         show [(((pre.length : Nat) : Int) + (A : Int),y)] = _
         rw [show ((pre.length : Nat) : Int) + (A : Int) = ((A + pre.length : Nat) : Int) from by omega]
       rw [em] at q2
       have e1 : encs putA [(((pre.length : Nat) : Int),y)] = [.int .i64 ((pre.length : Nat) : Int),.int .u64 y] := rfl
       rw [e1] at q1
       simp only [List.length_cons,List.length_nil,Nat.zero_add] at q1
       simp (disch := omega) only [wk,tupled,↓reduceIte,reduceEqDiff,reduceEq,reduceAdd,reduceCtorEq,E2,E3,E15,E16,hl16,hx,g6,gu,gw,lV,tN,hc,hy,Nat.zero_add,in_does,runE_none ll_does,q1]
       refine ih (pre ++ [y],s) _ _ _ (by simp) ?_
       refine ⟨by simp [a1],by simp only [en,↓reduceIte,reduceEqDiff,E2],by simp only [en,↓reduceIte,reduceEqDiff,E3],by simp only [en,↓reduceIte,reduceEqDiff,E15],by simp only [en,↓reduceIte,reduceEqDiff],rfl, ?_,gK.trans q3⟩
       rw [hm,hd]
       exact q2
 obtain ⟨o,H',h1,rfl,h2,h3⟩ := key
 exact ⟨H',h1,h2,h3⟩
def f64 : Frm := ⟨64,8,64,8⟩
def y64 : Ly := ⟨1,2,9,11,27,28⟩
theorem lyV0 : lyV f64 y64 = .agg layD := rfl
theorem y64t : LyT y64 := ⟨⟨by decide,by decide⟩,⟨by decide,by decide⟩⟩
theorem ok64 : okY f64 y64 := by decide
def errJ (r : Redo) : Int := if mayR f64 r then 0 else 310
theorem check0 {r : Redo} (ht : RedT r) (H : Heap) : pcx (cbL tab) 36 [.agg layD,.agg (redA r)] H = some (.plain (.int .i64 (errJ r))) := by
 have h := jcheck_px (f := f64) y64t ht H
 rw [lyV0] at h
 rw [h]
 unfold checkJ errJ
 rw [if_pos ok64]
theorem newC_own {α : Type} {sz : Nat} {f : α -> List AV} {l : List α} {H : Heap} {v : AV} (h : Own H sz v l.length (encs f l)) (hs : (encs f l).all (·.scal) = true) (hne : ∀ s n c,v ≠ .sl s n c .e) : newC H v = some (slvR sz f l) := by
 rcases h with ⟨rfl | rfl,h1,h2⟩ | ⟨h0,g,rfl,hg⟩
 . have : l = [] := List.eq_nil_of_length_eq_zero h1
   subst this
   rfl
 . exact absurd rfl (hne _ _ _)
 . have : l.isEmpty = false := by cases l with | nil => exact absurd rfl h0 | cons _ _ => rfl
   simp only [newC,hg,slvR,this,true_and,hs,if_true,Bool.false_eq_true,if_false]
theorem scal_putA (l : List (Int × Int)) : (encs putA l).all (·.scal) = true := by
 induction l with
 | nil => rfl
 | cons x r ih => rw [encs_cons,List.all_append,ih]; rfl
theorem redOne0 (r : Redo) : allOne (redA r) = true := by
 unfold redA
 simp only [allOne,AV.one,allOne_append,one_u64A,Bool.and_self,Bool.true_and]
theorem in_way (a b c d e f : Nat) (H : Heap) : pcx (cbL tab) 38 [.ptr a b,.ptr c d,.ptr e f] H = none :=
 pcx_none rfl (pc_none (fi := c38) rfl (by simp [pcOn,c38,hfL,AV.hf,lend,unown]))
theorem ll_way : (cbL tab).lent 38 = false := rfl
theorem again_1 {r : Redo} (ht : RedT r) (hk : r.k = 1) {W : List Int} (hW : W.length = 4096) {n : Nat} (hn : n < 8) (hi : r.i = ((n + 1 : Nat) : Int)) :
   (cbL tab).pc 14 [.sl 1 4096 (encs u64A W) .ro,.agg layD,.agg (redA r)] = some (.fval (.tup [slvR 2 putA (if errJ r = 0 then dI W (576 + 16 * n) 0 r.ws else []),.int .i64 (errJ r)])) := by
 obtain ⟨N,hN⟩ : ∃ N : Nat,N = 4096 := ⟨_,rfl⟩
 rw [<- hN]
 rw [<- hN] at hW
 have hwr : IntKind.i64.wrap (64 * 64) = (N : Int) := by rw [hN]; rfl
 have hcu := hf_u64A W
 have hcr := hf_redV r
 have llr := lend_redV r
 have lll : lend (.agg layD) = .agg layD := rfl
 have hfl : (AV.agg layD).hf = true := rfl
 refine pc_wp5 (fi := c14) rfl ?_ (by simp [c14]) (by decide) ?_
 . simp only [pcOn,List.map_cons,List.map_nil,hfL,hf_lend_sl,hf_lend_int,hf_lend_bool,hf_lend_str,hfL_append,Bool.and_self,Bool.and_true,Bool.true_and,c14,hcu,llr,hcr,lll,hfl]
 have e1 : lend (.sl 1 N (encs u64A W) .ro) = .sl 1 N (encs u64A W) .ro := rfl
 rw [List.map_cons,List.map_cons,List.map_cons,List.map_nil,e1,llr,lll]
 unfold c14
 have ck := fun H => check0 ht H
 have mt := fun e H => rmust_t e H
 have l10 : layD.length = 10 := rfl
 have o10 : allOne layD = true := rfl
 have t10 : List.take 10 layD = layD := rfl
 have m0 : layD[0]? = some (.int .i64 64) := rfl
 have r24 : (redA r).length = 24 := by simp [redA,lenU,ht.wl]
 have ro := redOne0 r
 have rt : List.take 24 (redA r) = redA r := List.take_of_length_le (by omega)
 have rk : (redA r)[0]? = some (.int .i64 1) := by rw [<- hk]; rfl
 have cl := fun H => clone_pc W (by omega) (fun e => by rw [e] at hW; simp at hW; omega) H
 rw [hW] at cl
 have su := scal_u64A W
 have lu := lenU W
 rw [hW] at lu
 have pw : prW (some (.fresh 1 N (encs u64A W))) 4 = some (.msl 1 4 0 N,some (.cells (encs u64A W))) := by
   simp only [prW,su,lu,Nat.mul_one,beq_self_eq_true,Bool.and_self,if_true]
 by_cases he : errJ r = 0
 . rw [if_pos he]
   rw [he] at ck ⊢
   have e11 : List.take 10 (layD ++ [AV.sl 0 0 [] Tk.z,AV.sl 0 0 [] Tk.z]) ++ [AV.msl 1 4 0 N] ++ List.drop 11 (layD ++ [AV.sl 0 0 [] Tk.z,AV.sl 0 0 [] Tk.z]) = layD ++ [.msl 1 4 0 N,.sl 0 0 [] .z] := rfl
   have a11 : allOne (layD ++ [.msl 1 4 0 N,.sl 0 0 [] .z]) = true := rfl
   have b21 : ((2 : Int) == 1) = false := rfl
   obtain ⟨H2,q1,q2,q3⟩ := inodeway_ic (H := [.cells layD,.cells (redA r),.cells [.sl 0 0 [] .z],.cells [.int .i64 0],.cells (encs u64A W),.cells (layD ++ [.msl 1 4 0 N,.sl 0 0 [] .z]),.cells [.ptr 5 0],
       .map [(.int .i64 1,.fn 38 [.ptr 0 0,.ptr 1 0,.ptr 6 0]),(.int .i64 2,.fn 41 [.ptr 6 0,.ptr 1 0])]]) ht (W := W) ⟨by decide,rfl,.sl 0 0 [] .z,by rw [hW]; rfl,.inl ⟨.inl rfl,rfl,rfl⟩,by intro a b c e; cases e⟩ (by omega) rfl rfl rfl hn hi
   have k6 := q3.keep 6 _ (by decide) (by decide) (by intro s e; cases e) rfl
   have k2 := q3.keep 2 _ (by decide) (by decide) (by intro s e; cases e) rfl
   have k3 := q3.keep 3 _ (by decide) (by decide) (by intro s e; cases e) rfl
   obtain ⟨_,_,v,ku,kown,kv⟩ := q2
   have vo : v.one = true /\ v.flat = [v] := by
     rcases own_sl kown with ⟨s,m,c,tk,rfl⟩
     exact ⟨rfl,rfl⟩
   have m11 : ∀ x y : AV,(layD ++ [x,y])[11]? = some y := fun _ _ => rfl
   have s2 : ∀ o,(H2.set 2 o)[3]? = some (.cells [.int .i64 0]) := fun o => by rw [set_neU (by decide)]; exact k3
   have s3 : ∀ o p,((H2.set 2 o).set 3 p)[2]? = some o := fun o p => by rw [set_neU (by decide)]; exact set_eqU k2
   have s4 : ∀ o p,((H2.set 2 o).set 3 p)[3]? = some p := fun o p => set_eqU (s2 o)
   have nw : ∀ o p : List AV,newC ((H2.set 2 (.cells o)).set 3 (.cells p)) v = some (slvR 2 putA (dI W (576 + 16 * n) 0 r.ws)) := fun o p => newC_own ((kown.set k2 (by intro s e; cases e)).set (s2 _) (by intro s e; cases e)) (scal_putA _) kv
   have vt : ∀ H : Heap,newA H v = newC H v := by
     rcases own_sl kown with ⟨s,m,c,tk,rfl⟩
     intro H; rfl
   have ni : ∀ H : Heap,newA H (.int .i64 0) = some (.int .i64 0) := fun H => rfl
   generalize hR : redA r = R at *
   generalize hL : layD = L0 at *
   simp (disch := omega) only [wk,tupled,↓reduceIte,reduceEqDiff,reduceEq,reduceAdd,reduceCtorEq,ck,mt,l10,o10,t10,m0,r24,ro,rt,rk,cl,pw,hwr,e11,a11,findA,cellEq,b21,in_way,runE_none ll_way,q1,k6,ku,m11,k2,vo.1,vo.2,s2,List.append_nil]
   rw [ends_left_ret (rcaught_ret _ _ _ _)]
   simp (disch := omega) only [wk,tupled,↓reduceIte,reduceEqDiff,reduceEq,reduceAdd,reduceCtorEq,s3,s4,newO,newV,mapN,vt,nw,ni]
   done
 . rw [if_neg he]
   have mf := fun H => rmust_f (errJ r) H
   unfold panJ at mf
   have es : slvR 2 putA ([] : List (Int × Int)) = .sl 0 0 [] .z := rfl
   rw [es]
   generalize errJ r = e at *
   generalize hR : redA r = R at *
   generalize hL : layD = L0 at *
   simp (disch := omega) only [wk,tupled,↓reduceIte,reduceEqDiff,reduceEq,reduceAdd,reduceCtorEq,ck,mf,l10,o10,t10,m0,r24,ro,rt,he]
   rw [ends_left_pan (rcaught_pan 3 _ _ _ _ _ _ _ (rclear_puts 2 _ _ rfl) rfl)]
   have n1 : ∀ H,newC H (.sl 0 0 [] .z) = some (.sl 0 0 [] .z) := fun _ => rfl
   have n2 : ∀ H,newC H (.int .i64 e) = some (.int .i64 e) := fun _ => rfl
   simp (disch := omega) only [wk,tupled,↓reduceIte,reduceEqDiff,reduceEq,reduceAdd,reduceCtorEq,newO,newV,newA,mapN,n1,n2]
end Go.Proofs.YtogbblcnfcfflaaGreat
namespace Go.Proofs.YtogbblcnfcfflaaGreat
open Go Go.Am
def tabB : FuncId -> Option AFun
 | 59 => some c59
 | 98 => some c98
 | _ => none
theorem tabB_ok : TabOk Tryz.prog tabB := by
 intro f fi h
 unfold tabB at h
 split at h
 . cases h; exact tk0 Tryz.func59 c59_ok
 . cases h; exact tk0 Tryz.func98 c98_ok
 . cases h
theorem con_msl {P : Program} {tb : FuncId -> Option AFun} (htb : TabOk P tb) {f : FuncId} {sz id off n off' m : Nat} {rest : List AV} (hs : ∀ x ∈ rest,x.scal = true) {H' : Heap}
   (h : (cbL tb).ic f (.msl sz id off n :: rest) (List.replicate (id + 1) .dead) = some (.ret (.msl sz id off' m),H')) (V : View) (W : World) (us : Array Value) (hi : ∀ p v,V.imm p = some v -> W.cell? p = some v /\ v.oneCell' = true)
   (hr : RepL V (.msl sz id off n :: rest) us.toList) : (callFunc f us).run P W = .ok (.enter f us) W /\ CallsIn (Fk none) 0 P f us W (PcPost V W (.plain (.msl sz id off' m))) := by
 obtain ⟨k,hk⟩ := cbL_ic.1 h
 obtain ⟨V0,hV0⟩ : ∃ V0 : View,V0 = ⟨V.imm,fun i => if i = id then V.loc id else none⟩ := ⟨_,rfl⟩
 have l0 : V0.loc id = V.loc id := by rw [hV0]; exact if_pos rfl
 have b0 : blkOf V0 id = blkOf V id := by unfold blkOf; rw [l0]
 have gd : ∀ (i : Nat) (o : AObj),(List.replicate (id + 1) AObj.dead)[i]? = some o -> o = .dead := by
   intro i o ho
   rw [List.getElem?_replicate] at ho
   split at ho
   . cases ho; rfl
   . cases ho
 have hW : WR P W V0 (List.replicate (id + 1) .dead) W := by
   have he := wr_empty (P := P) (W := W) (V := V) hi
   refine ⟨he.below,by rw [hV0]; exact hi,fun i o ho => ?_,fun i i' o o' b ho _ hl => ?_,fun i hi' => ?_⟩
   . rw [gd i o ho]; trivial
   . rw [gd i o ho] at hl; cases hl
   . rw [List.length_replicate] at hi'
     rw [hV0]
     exact if_neg (by omega)
 have hm := hr.2 0
 have hr' : RepL V0 (.msl sz id off n :: rest) us.toList := ⟨hr.1,fun i x v hx hv => by
   cases i with
   | zero =>
     cases hx
     cases hr.2 0 _ v rfl hv with
     | msl hl hnc => exact .msl (by rw [b0]; exact hl) hnc
   | succ i => exact scal_rep (hr.2 (i + 1) x v hx hv) (hs x (List.mem_of_getElem? (by simpa using hx))) V0⟩
 have hloc : ∃ l,V.loc id = some l := by
   have hlen := hr.1
   rw [List.length_cons] at hlen
   have h0 : 0 < us.toList.length := by omega
   have h1 := hr.2 0 _ us.toList[0] rfl (List.getElem?_eq_getElem h0)
   generalize us.toList[0] = u0 at h1
   cases h1 with
   | msl hl hnc =>
     unfold blkOf at hl
     cases hv : V.loc id with
     | none => rw [hv] at hl; cases hl
     | some l => exact ⟨l,rfl⟩
 obtain ⟨l,hl⟩ := hloc
 obtain ⟨k1,k2⟩ := (cbs_ok htb k).ic _ _ _ _ _ hk W V0 W us hW hr'
 refine ⟨k1,k2.mono ?_⟩
 rintro e W' ⟨V',g1,g2,g3⟩
 cases e with
 | panicked _ => exact g3.elim
 | outgrown => exact g3.elim
 | returned u =>
   have gi : V'.loc id = some l := g1.le.loc _ _ (by rw [l0]; exact hl)
   refine ⟨V'.imm,g2.below,g2.imm,fun p v hp => g1.le.imm p v (by rw [hV0]; exact hp),fun p v hp => ?_, ?_⟩
   . have := g1.new p v hp
     rw [hV0] at this
     exact this
   . have g3 : Rep V' (.msl sz id off' m) u := g3
     cases g3 with
     | msl hb hnc =>
       refine .msl ?_ hnc
       unfold blkOf at hb ⊢
       rw [gi] at hb
       have e : (⟨V'.imm,V.loc⟩ : View).loc id = some l := hl
       rw [e]
       exact hb
theorem piece_msl (id off n : Nat) (a m : Int) (H : Heap) (h : 0 <= a /\ 0 < m /\ a + m <= n /\ n <= 1000000) : ∃ H',(cbL tabB).ic 98 [.msl 1 id off n,.int .i64 a,.int .i64 m] H = some (.ret (.msl 1 id (off + a.toNat) m.toNat),H') := by
 have key : ∃ o H',(cbL tabB).ic 98 [.msl 1 id off n,.int .i64 a,.int .i64 m] H = some (o,H') /\ o = .ret (.msl 1 id (off + a.toNat) m.toNat) := by
   refine ic_wp (fi := c98) rfl (by simp [pcOn,c98,hfL,AV.hf,lend,unown]) (by simp [c98]) (by decide) ?_
   unfold c98
   obtain ⟨h1,h2,h3,h4⟩ := h
   have h5 : 0 <= a + m := by omega
   have h6 : (a + m).toNat - a.toNat = m.toNat := by omega
   simp (disch := omega) only [wk,tupled,↓reduceIte,reduceEqDiff,reduceEq,reduceAdd,reduceCtorEq,h1,h5,h6]
 obtain ⟨o,H',h1,rfl⟩ := key
 exact ⟨H',h1⟩
theorem piece_none (id off n : Nat) (a m : AV) (H : Heap) : pcx (cbL tabB) 98 [.msl 1 id off n,a,m] H = none :=
 pcx_none rfl (pc_none (fi := c98) rfl (by simp [pcOn,c98,hfL,AV.hf,lend,unown]))
theorem con_sl {P : Program} {tb : FuncId -> Option AFun} (htb : TabOk P tb) {f : FuncId} {n a m : Nat} {cs : List AV} {tk : Tk} {rest : List AV} (hs : ∀ x ∈ rest,x.scal = true) (hn : 0 < n) (hm : a + m <= n) (hcs : n <= cs.length)
   (h : ∀ off,∃ H',(cbL tb).ic f (.msl 1 0 off n :: rest) [.dead] = some (.ret (.msl 1 0 (off + a) m),H')) (V : View) (W : World) (us : Array Value) (hi : ∀ p v,V.imm p = some v -> W.cell? p = some v /\ v.oneCell' = true)
   (hr : RepL V (.sl 1 n cs tk :: rest) us.toList) : (callFunc f us).run P W = .ok (.enter f us) W /\ CallsIn (Fk none) 0 P f us W (PcPost V W (.plain (.sl 1 m ((cs.take (a + m)).drop a) .ro))) := by
 have hlen := hr.1
 rw [List.length_cons] at hlen
 have h0 : 0 < us.toList.length := by omega
 have hu0 := List.getElem?_eq_getElem h0
 have h1 := hr.2 0 _ us.toList[0] rfl hu0
 obtain ⟨b,o,cap,g,hv,e1,e2,e3,e4,e5⟩ : ∃ (b o cap : Nat) (g : Nat -> Value),us.toList[0] = .slice (some ⟨b,o,none⟩) n cap /\ n * 1 <= cs.length /\ cs.length <= cap * 1 /\ n <= cap /\ (∀ i,i < cs.length -> V.imm ⟨b,o + i,none⟩ = some (g i)) /\ ∀ (i : Nat) (x : AV),cs[i]? = some x -> Rep V x (g i) := by
   rcases rep_sl h1 with ⟨_,e,_⟩ | ⟨_,_,e,_⟩ | h
   . omega
   . omega
   . exact h
 obtain ⟨H',hic⟩ := h o
 obtain ⟨k,hk⟩ := cbL_ic.1 hic
 obtain ⟨V0,hV0⟩ : ∃ V0 : View,V0 = ⟨V.imm,fun i => if i = 0 then some (.blk b) else none⟩ := ⟨_,rfl⟩
 have l0 : V0.loc 0 = some (.blk b) := by rw [hV0]; rfl
 have hW : WR P W V0 [.dead] W := by
   have he := wr_empty (P := P) (W := W) (V := V) hi
   refine ⟨he.below,by rw [hV0]; exact hi,fun i o ho => ?_,fun i i' o o' b ho _ hl => ?_,fun i hi' => ?_⟩
   . cases i with
     | zero => cases ho; trivial
     | succ i => simp at ho
   . cases i with
     | zero => cases ho; cases hl
     | succ i => simp at ho
   . rw [hV0]
     exact if_neg (by simp at hi'; omega)
 have hr' : RepL V0 (.msl 1 0 o n :: rest) us.toList := ⟨hr.1,fun i x v hx hv2 => by
   cases i with
   | zero =>
     cases hx
     rw [hu0] at hv2
     cases hv2
     rw [hv]
     exact .msl (by unfold blkOf; rw [l0]) e3
   | succ i => exact scal_rep (hr.2 (i + 1) x v hx hv2) (hs x (List.mem_of_getElem? (by simpa using hx))) V0⟩
 obtain ⟨k1,k2⟩ := (cbs_ok htb k).ic _ _ _ _ _ hk W V0 W us hW hr'
 refine ⟨k1,k2.mono ?_⟩
 rintro e W' ⟨V',g1,g2,g3⟩
 cases e with
 | panicked _ => exact g3.elim
 | outgrown => exact g3.elim
 | returned u =>
   have gi : V'.loc 0 = some (.blk b) := g1.le.loc _ _ l0
   have him : ∀ p v,V.imm p = some v -> V'.imm p = some v := fun p v hp => g1.le.imm p v (by rw [hV0]; exact hp)
   refine ⟨V'.imm,g2.below,g2.imm,him,fun p v hp => ?_, ?_⟩
   . have := g1.new p v hp
     rw [hV0] at this
     exact this
   . have g3 : Rep V' (.msl 1 0 (o + a) m) u := g3
     cases g3 with
     | msl hb hnc =>
       unfold blkOf at hb
       rw [gi] at hb
       cases hb
       have hl : ((cs.take (a + m)).drop a).length = m := by rw [List.length_drop,List.length_take]; omega
       have hg : ∀ (i : Nat) (x : AV),((cs.take (a + m)).drop a)[i]? = some x -> i < m /\ cs[a + i]? = some x := by
         intro i x hx
         rw [List.getElem?_drop,List.getElem?_take] at hx
         split at hx
         . exact ⟨by omega,hx⟩
         . cases hx
       refine .sl (fun i => g (a + i)) (by rw [hl]; omega) (by rw [hl]; omega) hnc (fun i hi2 => ?_) (fun i x hx => ?_) (.inl rfl)
       . rw [hl] at hi2
         have := him _ _ (e4 (a + i) (by omega))
         rw [<- Nat.add_assoc] at this
         exact this
       . exact (e5 (a + i) x (hg i x hx).2).mono (V' := ⟨V'.imm,V.loc⟩) ⟨him,fun _ _ h => h⟩
theorem conPc_ok : ConOk Tryz.prog 98 conPc := by
 intro args r hg V W us hi hr
 unfold conPc at hg
 split at hg
 . split at hg
   . rename_i id off n a m hc
     cases hg
     obtain ⟨H',h⟩ := piece_msl id off n a m (List.replicate (id + 1) .dead) hc
     exact con_msl tabB_ok (by simp [AV.scal]) h V W us hi hr
   . cases hg
 . split at hg
   . rename_i n cs a m hc
     cases hg
     obtain ⟨h1,h2,h3,h4,h5⟩ := hc
     rw [show (a + m).toNat = a.toNat + m.toNat from by omega]
     exact con_sl tabB_ok (by simp [AV.scal]) (by omega) (by omega) h5 (fun off => piece_msl 0 off n a m [.dead] ⟨h1,h2,h3,h4⟩) V W us hi hr
   . cases hg
 . split at hg
   . rename_i n cs g a m hc
     cases hg
     obtain ⟨h1,h2,h3,h4,h5⟩ := hc
     rw [show (a + m).toNat = a.toNat + m.toNat from by omega]
     exact con_sl tabB_ok (by simp [AV.scal]) (by omega) (by omega) h5 (fun off => piece_msl 0 off n a m [.dead] ⟨h1,h2,h3,h4⟩) V W us hi hr
   . cases hg
 . cases hg
theorem block_msl (id off n : Nat) (b : Int) (H : Heap) (h : 0 <= b * 64 /\ b * 64 + 64 <= n /\ n <= 1000000) : ∃ H',(cbL tabB).ic 59 [.msl 1 id off n,.int .i64 b] H = some (.ret (.msl 1 id (off + (b * 64).toNat) 64),H') := by
 have key : ∃ o H',(cbL tabB).ic 59 [.msl 1 id off n,.int .i64 b] H = some (o,H') /\ o = .ret (.msl 1 id (off + (b * 64).toNat) 64) := by
   refine ic_wp (fi := c59) rfl (by simp [pcOn,c59,hfL,AV.hf,lend,unown]) (by simp [c59]) (by decide) ?_
   unfold c59
   obtain ⟨h1,h2,h3⟩ := h
   obtain ⟨H1,hp⟩ := piece_msl id off n (b * 64) 64 H ⟨h1,by omega,h2,h3⟩
   have hn := fun a m H => piece_none id off n a m H
   have hl : (cbL tabB).lent 98 = false := rfl
   have t64 : Int.toNat 64 = 64 := rfl
   simp (disch := omega) only [wk,tupled,↓reduceIte,reduceEqDiff,reduceEq,reduceAdd,reduceCtorEq,hn,runE_none hl,hp,t64]
 obtain ⟨o,H',h1,rfl⟩ := key
 exact ⟨H',h1⟩
theorem conBlk_ok : ConOk Tryz.prog 59 conBlk := by
 intro args r hg V W us hi hr
 unfold conBlk at hg
 split at hg
 case h_2 => cases hg
 rename_i x b
 split at hg
 case isFalse => cases hg
 rename_i hb
 unfold conPc at hg
 split at hg
 . rename_i id off n a m heq
   cases heq
   split at hg
   . rename_i hc
     cases hg
     obtain ⟨H',h⟩ := block_msl id off n b (List.replicate (id + 1) .dead) ⟨hc.1,hc.2.2.1,hc.2.2.2⟩
     exact con_msl tabB_ok (by simp [AV.scal]) h V W us hi hr
   . cases hg
 . rename_i n cs a m heq
   cases heq
   split at hg
   . rename_i hc
     cases hg
     obtain ⟨h1,h2,h3,h4,h5⟩ := hc
     rw [show (b * 64 + 64).toNat = (b * 64).toNat + 64 from by omega]
     exact con_sl tabB_ok (by simp [AV.scal]) (by omega) (by omega) h5 (fun off => block_msl 0 off n b [.dead] ⟨h1,h3,h4⟩) V W us hi hr
   . cases hg
 . rename_i n cs g a m heq
   cases heq
   split at hg
   . rename_i hc
     cases hg
     obtain ⟨h1,h2,h3,h4,h5⟩ := hc
     rw [show (b * 64 + 64).toNat = (b * 64).toNat + 64 from by omega]
     exact con_sl tabB_ok (by simp [AV.scal]) (by omega) (by omega) h5 (fun off => block_msl 0 off n b [.dead] ⟨h1,h3,h4⟩) V W us hi hr
   . cases hg
 . cases hg
end Go.Proofs.YtogbblcnfcfflaaGreat
