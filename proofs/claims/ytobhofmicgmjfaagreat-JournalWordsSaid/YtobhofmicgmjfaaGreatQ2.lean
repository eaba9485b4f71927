/- TEXTS OF THE WALKS, put together: N8 N11 N9 N12 KL KS KU JX JM KJ J0 J1 J2 J3 J4 J5 J6 J7 J8 J9 J10 J11 J12 J13 J14 JR0 JR1. No condition but those stated. -/
import Derived.Test.YtobhofmicgmjfaaGreatQ1
import Derived.Test.YtobhofmicgmjfaaGreatAmRng
import Derived.Test.YtobhofmicgmjfaaGreatP1
open Int (reduceEq)
open Nat (reduceEqDiff reduceAdd reduceMul reduceLT reduceLeDiff)
set_option linter.all false
set_option maxHeartbeats 4000000
set_option maxRecDepth 10000
namespace Go.Proofs.YtobhofmicgmjfaaGreat
open Go Go.Am Go.Rec Go.Ino
def putF : List Int -> Nat -> List Int -> List Int
 | w,_,[] => w
 | w,j,v :: r => putF (w.set j v) (j + 1) r
theorem putF_app : ∀ (l a b : List Int),l.length <= b.length -> putF (a ++ b) a.length l = a ++ l ++ b.drop l.length
 | [],a,b,_ => by simp [putF]
 | v :: r,a,[],h => by simp at h
 | v :: r,a,x :: b,h => by
   have e : (a ++ x :: b).set a.length v = (a ++ [v]) ++ b := by
     rw [List.set_append_right _ _ (Nat.le_refl _),Nat.sub_self]; simp
   have el : a.length + 1 = (a ++ [v]).length := by simp
   rw [putF,e,el,putF_app r (a ++ [v]) b (by simpa using h)]
   simp
theorem put1_ic (id bx : Nat) (j : Nat) (v : Int) (w : List Int) (H : Heap) (hid : H[id]? = some (.cells (encs u64A w))) (hbx : H[bx]? = some (.cells [.msl 1 id 0 16])) (hw : w.length = 16) (hj : 1 + j < 16) :
   pcx (cbL tab) 133 [.int .i64 (j : Nat),.int .u64 v,.ptr bx 0] H = none /\ (cbL tab).ic 133 [.int .i64 (j : Nat),.int .u64 v,.ptr bx 0] H = some (.ret (.tup []),H.set id (.cells (encs u64A (w.set (1 + j) v)))) := by
 refine ⟨pcx_none rfl (pc_none (fi := c133) rfl rfl), ?_⟩
 have : ∃ o H',(cbL tab).ic 133 [.int .i64 (j : Nat),.int .u64 v,.ptr bx 0] H = some (o,H') /\ o = .ret (.tup []) /\ H' = H.set id (.cells (encs u64A (w.set (1 + j) v))) := by
   refine ic_wp (fi := c133) rfl rfl (by simp [c133]) (by decide) ?_
   unfold c133
   have su := setU w (1 + j) v (by omega)
   have lw := lenU w
   have e1 : (1 : Int) + (j : Int) = ((1 + j : Nat) : Int) := by omega
   have n1 : ((1 + j : Nat) : Int) < ((16 : Nat) : Int) := by omega
   have n0 : (0 : Int) <= ((1 + j : Nat) : Int) := by omega
   simp (disch := omega) only [wk,tupled,↓reduceIte,reduceEqDiff,reduceEq,reduceAdd,reduceCtorEq,hbx,hid,e1,n1,n0,su,lw,hw,Nat.zero_add]
 obtain ⟨o,H',h,rfl,rfl⟩ := this
 exact h
theorem lput1 : (cbL tab).lent 133 = false := rfl
theorem put_ic (id : Nat) (w l : List Int) (rest : List AV) (s : Nat) (tk : Tk) (H : Heap) (hid : H[id]? = some (.cells (encs u64A w))) (hw : w.length = 16) (hl : l.length <= 15) (hz : l ≠ [] -> s = 1) :
   pcx (cbL tab) 99 [.msl 1 id 0 16,.sl s l.length (encs u64A l ++ rest) tk] H = none /\ ∃ H',(cbL tab).ic 99 [.msl 1 id 0 16,.sl s l.length (encs u64A l ++ rest) tk] H = some (.ret (.tup []),H') ∧
     H'[id]? = some (.cells (encs u64A (putF w 1 l))) /\ H.length <= H'.length /\ ∀ k,k ≠ id -> k < H.length -> H'[k]? = H[k]? := by
 refine ⟨pcx_none rfl (pc_none (fi := c99) rfl rfl), ?_⟩
 have : ∃ o H',(cbL tab).ic 99 [.msl 1 id 0 16,.sl s l.length (encs u64A l ++ rest) tk] H = some (o,H') /\ o = .ret (.tup []) /\ H'[id]? = some (.cells (encs u64A (putF w 1 l))) /\ H.length <= H'.length /\ ∀ k,k ≠ id -> k < H.length -> H'[k]? = H[k]? := by
   refine ic_wp (fi := c99) rfl rfl (by simp [c99]) (by decide) ?_
   unfold c99
   have hlt : id < H.length := (List.getElem?_eq_some_iff.1 hid).1
   simp (disch := omega) only [wk,tupled,↓reduceIte,reduceEqDiff,reduceEq,reduceAdd,reduceCtorEq]
   refine loop_ind (fun (x : List Int × List Int × List Int) E df H1 => l = x.1 ++ x.2.1 /\ putF w 1 l = putF x.2.2 (1 + x.1.length) x.2.1 /\ x.2.2.length = 16 /\ E 2 = .ptr H.length 0 /\ E 4 = .fn 133 [.ptr H.length 0] /\ E 8 = .sl s l.length (encs u64A l ++ rest) tk /\ E 9 = .int .i64 (l.length : Nat) /\ E 10 = .int .i64 (x.1.length : Nat) /\ df = [] ∧
       H1[id]? = some (.cells (encs u64A x.2.2)) /\ H1[H.length]? = some (.cells [.msl 1 id 0 16]) /\ H.length <= H1.length /\ ∀ k,k ≠ id -> k < H.length -> H1[k]? = H[k]?)
     (fun x => x.2.1.length) ([],l,w) (by decide) (.inl rfl) ⟨rfl,rfl,hw,rfl,rfl,rfl,rfl,rfl,rfl,by rw [List.getElem?_append_left hlt]; exact hid,by simp,by simp,fun k _ hk => List.getElem?_append_left hk⟩ ?_
   intro ⟨pre,suf,w1⟩ E df H1 ih hP
   obtain ⟨a1,a2,hw1,E2,E4,E8,E9,E10,hdf,h0,h1,hle,hold⟩ := hP
   dsimp only at a1 a2 hw1 E10 h0
   subst hdf
   have hll : l.length = pre.length + suf.length := by rw [a1,List.length_append]
   cases suf with
   | nil =>
     simp only [List.length_nil,Nat.add_zero] at hll
     have e : putF w 1 l = w1 := a2
     simp (disch := omega) only [wk,tupled,↓reduceIte,reduceEqDiff,reduceEq,reduceAdd,reduceCtorEq,E2,E4,E8,E9,E10,hll]
     rw [e]
     exact ⟨h0,hle,hold⟩
   | cons v r =>
     simp only [List.length_cons] at hll
     obtain rfl := hz (by rw [a1]; simp)
     have d := wdrop pre v r rest
     rw [<- a1] at d
     have n1 : (pre.length : Int) < (l.length : Int) := by omega
     obtain ⟨p1,p2⟩ := put1_ic id H.length pre.length v w1 H1 h0 h1 hw1 (by omega)
     simp (disch := omega) only [wk,tupled,↓reduceIte,reduceEqDiff,reduceEq,reduceAdd,reduceCtorEq,E2,E4,E8,E9,E10,n1,d,p1,p2,runE_none lput1]
     refine ih (pre ++ [v],r,w1.set (1 + pre.length) v) _ _ _ (by simp) ?_
     refine ⟨by simp [a1], ?_,by rw [List.length_set]; exact hw1,by simp only [en,↓reduceIte,reduceEqDiff,E2],by simp only [en,↓reduceIte,reduceEqDiff,E4],by simp only [en,↓reduceIte,reduceEqDiff,E8],by simp only [en,↓reduceIte,reduceEqDiff,E9],by simp only [en,↓reduceIte,reduceEqDiff],rfl,List.getElem?_set_self (List.getElem?_eq_some_iff.1 h0).1, ?_,by rw [List.length_set]; exact hle,fun k hk1 hk2 => ?_⟩
     . rw [a2,putF]
       dsimp only
       rw [List.length_append]; rfl
     . rw [List.getElem?_set_ne (by omega)]; exact h1
     . rw [List.getElem?_set_ne (fun e => hk1 e.symm)]; exact hold k hk1 hk2
 obtain ⟨o,H',h,rfl,h2⟩ := this
 exact ⟨H',h,h2⟩
theorem lput : (cbL tab).lent 99 = false := rfl
def LayP (f : FuncId) (n : Ino) (m : AV) (l : List Int) : Prop := ∀ (id : Nat) (w : List Int) (H : Heap),H[id]? = some (.cells (encs u64A w)) -> w.length = 16 →
 pcx (cbL tab) f [inoA n m,.msl 1 id 0 16] H = none /\ ∃ H',(cbL tab).ic f [inoA n m,.msl 1 id 0 16] H = some (.ret (.tup []),H') /\ H'[id]? = some (.cells (encs u64A (putF w 1 l))) /\ H.length <= H'.length /\ ∀ k,k ≠ id -> k < H.length -> H'[k]? = H[k]?
theorem lay0 (n : Ino) (m : AV) (hm : MapR m n.map) : LayP 90 n m [] := by
 intro id w H hid hw
 refine ⟨pcx_none rfl (pc_none (fi := c90) rfl (by simp [pcOn,c90,lend,unown,hfL,AV.hf])), ?_⟩
 have hlt : id < H.length := (List.getElem?_eq_some_iff.1 hid).1
 have : ∃ o H',(cbL tab).ic 90 [inoA n m,.msl 1 id 0 16] H = some (o,H') /\ o = .ret (.tup []) /\ H'[id]? = some (.cells (encs u64A (putF w 1 []))) /\ H.length <= H'.length /\ ∀ k,k ≠ id -> k < H.length -> H'[k]? = H[k]? := by
   refine ic_wp (fi := c90) rfl (by simp [pcOn,c90,lend,unown,hfL,AV.hf]) (by simp [c90]) (by decide) ?_
   unfold c90
   have m1 := hm.one.1
   have m2 := hm.one.2
   simp only [inoA]
   simp (disch := omega) only [wk,tupled,↓reduceIte,reduceEqDiff,reduceEq,reduceAdd,reduceCtorEq,m1,m2]
   exact ⟨by rw [List.getElem?_append_left hlt]; exact hid,by omega,fun k _ hk => List.getElem?_append_left hk⟩
 obtain ⟨o,H',h,rfl,h2⟩ := this
 exact ⟨H',h,h2⟩
theorem lay2 (n : Ino) (m : AV) (hm : MapR m n.map) (h1 : 0 <= n.root) (h2 : n.root < 9223372036854775807) (h3 : 0 <= n.parent) (h4 : n.parent < 9223372036854775807) : LayP 105 n m [0,n.root,n.parent] := by
 intro id w H hid hw
 refine ⟨pcx_none rfl (pc_none (fi := c105) rfl (by simp [pcOn,c105,lend,unown,hfL,AV.hf])), ?_⟩
 have hlt : id < H.length := (List.getElem?_eq_some_iff.1 hid).1
 have : ∃ o H',(cbL tab).ic 105 [inoA n m,.msl 1 id 0 16] H = some (o,H') /\ o = .ret (.tup []) /\ H'[id]? = some (.cells (encs u64A (putF w 1 [0,n.root,n.parent]))) /\ H.length <= H'.length /\ ∀ k,k ≠ id -> k < H.length -> H'[k]? = H[k]? := by
   refine ic_wp (fi := c105) rfl (by simp [pcOn,c105,lend,unown,hfL,AV.hf]) (by simp [c105]) (by decide) ?_
   unfold c105
   have m1 := hm.one.1
   have m2 := hm.one.2
   have v1 : IntKind.u64.wrap n.root = n.root := wrap_u64 (by omega) (by omega)
   have v2 : IntKind.u64.wrap n.parent = n.parent := wrap_u64 (by omega) (by omega)
   obtain ⟨p1,H2,p2,p3,p4,p5⟩ := put_ic id w [0,n.root,n.parent] [] 1 .ro (H ++ [.cells (inoC n m)]) (by rw [List.getElem?_append_left hlt]; exact hid) hw (by simp) (fun _ => rfl)
   have e3 : encs u64A [0,n.root,n.parent] ++ [] = [.int .u64 0,.int .u64 n.root,.int .u64 n.parent] := rfl
   have e4 : ([0,n.root,n.parent] : List Int).length = 3 := rfl
   rw [e3,e4] at p1 p2
   unfold inoC at p1 p2
   simp only [inoA]
   have nx : ∀ A : AObj,(H ++ [A])[H.length]? = some A := fun A => by simp
   simp (disch := omega) only [wk,tupled,↓reduceIte,reduceEqDiff,reduceEq,reduceAdd,reduceCtorEq,m1,m2,nx,v1,v2,p1,p2,runE_none lput]
   refine ⟨p3,by simp at p4; omega,fun k hk1 hk2 => ?_⟩
   rw [p5 k hk1 (by simp; omega),List.getElem?_append_left hk2]
 obtain ⟨o,H',h,rfl,h2⟩ := this
 exact ⟨H',h,h2⟩
theorem app_e2 (x : Int) (l : List Int) (tk : Tk) (H : Heap) (h0 : l ≠ []) (hl : l.length <= 1000) :
   appV 1 8 (.sl 1 1 [.int .u64 x] .e) (.sl 1 l.length (encs u64A l) tk) H = some (.val (.sl 1 (1 + l.length) (encs u64A (x :: l)) (.own H.length)),H ++ [.tok 1]) := by
 have h1 : l.length ≠ 0 := fun h => h0 (List.length_eq_zero_iff.1 h)
 have h2 : (1 + l.length) * 8 <= 70368744177664 := by omega
 have h3 : 1 + l.length <= 70368744177664 := by omega
 have ht : (encs u64A l).take l.length = encs u64A l := List.take_of_length_le (by rw [lenU]; exact Nat.le_refl _)
 have ht' : (encs u64A l).take (l.length * 1) = encs u64A l := by rw [Nat.mul_one]; exact ht
 simp only [appV,ht,ht',lenU,Nat.mul_one,h1,h2,h3,one_u64A,if_true,if_false,true_and,and_true,and_self,Nat.le_refl,List.length_cons,List.length_nil,Nat.zero_add,Nat.zero_lt_one,Nat.one_mul]
 rfl
theorem lay1 (n : Ino) (m : AV) (hm : MapR m n.map) (ho : (ofM n.map).isSome = true) (h1 : 0 <= n.size) (h2 : n.size <= 65536) : LayP 97 n m (n.size :: wordsE n.map) := by
 intro id w H hid hw
 refine ⟨pcx_none rfl (pc_none (fi := c97) rfl (by simp [pcOn,c97,lend,unown,hfL,AV.hf])), ?_⟩
 have hlt : id < H.length := (List.getElem?_eq_some_iff.1 hid).1
 have : ∃ o H',(cbL tab).ic 97 [inoA n m,.msl 1 id 0 16] H = some (o,H') /\ o = .ret (.tup []) /\ H'[id]? = some (.cells (encs u64A (putF w 1 (n.size :: wordsE n.map)))) /\ H.length <= H'.length /\ ∀ k,k ≠ id -> k < H.length -> H'[k]? = H[k]? := by
   refine ic_wp (fi := c97) rfl (by simp [pcOn,c97,lend,unown,hfL,AV.hf]) (by simp [c97]) (by decide) ?_
   unfold c97
   rw [z10]
   have m1 := hm.one.1
   have m2 := hm.one.2
   obtain ⟨s,rest,tk,hme,hz,hr,htk⟩ := hm
   obtain ⟨hl10,hright⟩ := isSome_right ho
   have xw : ∀ H,pcx (cbL tab) 98 [m] H = some (.plain (xwV (xwR n.map))) := fun H => by rw [hme]; exact xwords_px n.map s rest tk hz hr (by omega) H
   have e : xwR n.map = (wordsE n.map,0) := by unfold xwR; rw [ho]; rfl
   rw [e] at xw
   simp only [xwV,arrV] at xw
   have wl := wordsE_len hl10
   have lw := lenU (wordsE n.map)
   have n10 : (wordsE []).length = 10 := rfl
   have lz := lenU (wordsE [])
   have dz := dr10 (wordsE []) rfl
   have ow := one_u64A (wordsE n.map)
   have v1 : IntKind.u64.wrap n.size = n.size := wrap_u64 (by omega) (by omega)
   have hne : wordsE n.map ≠ [] := fun h => by rw [h] at wl; cases wl
   have ro : rowOf (H ++ [AObj.cells (inoC n m),.cells (encs u64A (wordsE n.map))]) (.msl 1 (H.length + 1) 0 10) = .sl 1 (wordsE n.map).length (encs u64A (wordsE n.map)) .ro := by
     rw [rowOf_msl (get_a1 ..) (by rw [lenU,wl]; decide) (by decide),List.drop_zero,List.take_of_length_le (by rw [lenU,wl]; decide),wl]
   have ap := app_e2 n.size (wordsE n.map) .ro (H ++ [AObj.cells (inoC n m),.cells (encs u64A (wordsE n.map))]) hne (by omega)
   obtain ⟨p1,H2,p2,p3,p4,p5⟩ := put_ic id w (n.size :: wordsE n.map) [] 1 (.own (H ++ [AObj.cells (inoC n m),.cells (encs u64A (wordsE n.map))]).length) (H ++ [AObj.cells (inoC n m),.cells (encs u64A (wordsE n.map))] ++ [.tok 1])
     (by rw [List.append_assoc,List.getElem?_append_left hlt]; exact hid) hw (by simp [wl]) (fun _ => rfl)
   have el : (n.size :: wordsE n.map).length = 1 + (wordsE n.map).length := by rw [List.length_cons,Nat.add_comm]
   rw [el,List.append_nil] at p1 p2
   have nx : ∀ A B : AObj,(H ++ [A,B])[H.length]? = some A := fun A B => by simp
   have nx1 : ∀ A : AObj,(H ++ [A])[H.length]? = some A := fun A => by simp
   have w1 : H ++ [AObj.cells (inoC n m),.cells (encs u64A (wordsE []))] = (H ++ [AObj.cells (inoC n m)]) ++ [.cells (encs u64A (wordsE []))] := by simp
   simp only [inoA]
   unfold inoC at ro ap p1 p2
   simp (disch := omega) only [wk,tupled,↓reduceIte,reduceEqDiff,reduceEq,reduceAdd,reduceCtorEq,m1,m2,nx,nx1,get_a1,set_a1,xw,n10,lz,dz,wl,lw,ow,flat_arr,List.append_nil,List.append_assoc,v1]
   rw [ro,ap]
   simp only [encs_cons,List.length_append,List.length_cons,List.length_nil,List.append_assoc,List.cons_append,List.nil_append,Nat.zero_add,Nat.reduceAdd] at p1 p2
   simp (disch := omega) only [wk,tupled,↓reduceIte,reduceEqDiff,reduceEq,reduceAdd,reduceCtorEq,p1,p2,runE_none lput,List.append_assoc]
   refine ⟨p3,by simp at p4; omega,fun k hk1 hk2 => ?_⟩
   rw [p5 k hk1 (by simp; omega),List.append_assoc,List.getElem?_append_left hk2]
 obtain ⟨o,H',h,rfl,h2⟩ := this
 exact ⟨H',h,h2⟩
theorem layM_ne_nil {l : List UInt8} (h : l ≠ []) : layM l ≠ [] := by rw [layM_ne h]; simp
theorem prRow_ne {α : Type} {sz : Nat} {f : α -> List AV} {l : List α} (h : l ≠ []) : prRow sz f l = .fresh sz l.length (encs f l) := by
 unfold prRow
 have : l.isEmpty = false := by cases l with
   | nil => exact absurd rfl h
   | cons _ _ => rfl
 rw [this]; rfl
theorem lay3 (n : Ino) (m : AV) (hm : MapR m n.map) (h1 : 1 <= n.target.size) (h2 : n.target.size <= 112) : LayP 110 n m ((n.target.size : Int) :: layM n.target.data.toList) := by
 intro id w H hid hw
 refine ⟨pcx_none rfl (pc_none (fi := c110) rfl (by simp [pcOn,c110,lend,unown,hfL,AV.hf])), ?_⟩
 have hlt : id < H.length := (List.getElem?_eq_some_iff.1 hid).1
 have : ∃ o H',(cbL tab).ic 110 [inoA n m,.msl 1 id 0 16] H = some (o,H') /\ o = .ret (.tup []) /\ H'[id]? = some (.cells (encs u64A (putF w 1 ((n.target.size : Int) :: layM n.target.data.toList)))) /\ H.length <= H'.length /\ ∀ k,k ≠ id -> k < H.length -> H'[k]? = H[k]? := by
   refine ic_wp (fi := c110) rfl (by simp [pcOn,c110,lend,unown,hfL,AV.hf]) (by simp [c110]) (by decide) ?_
   unfold c110
   have m1 := hm.one.1
   have m2 := hm.one.2
   have hsd := size_data n.target
   have hne0 : n.target.data.toList ≠ [] := fun h => by rw [h] at hsd; simp at hsd; omega
   have lp := fun H => lay_px n.target.data.toList 1 .ro H (by omega) rfl
   rw [prRow_ne (layM_ne_nil hne0)] at lp
   rw [hsd,<- bytesA_encs] at lp
   have ll := layM_len n.target.data.toList
   rw [hsd] at ll
   have hne := layM_ne_nil hne0
   have v1 : IntKind.u64.wrap (n.target.size : Int) = (n.target.size : Int) := wrap_u64 (by omega) (by omega)
   have s1 : (n.target.size : Nat) <= 70368744177664 := by omega
   have ap := fun tk H => app_e2 (n.target.size : Int) (layM n.target.data.toList) tk H hne (by omega)
   obtain ⟨p1,H2,p2,p3,p4,p5⟩ := put_ic id w ((n.target.size : Int) :: layM n.target.data.toList) [] 1 (.own (H ++ [AObj.cells (inoC n m),.tok 1]).length) (H ++ [AObj.cells (inoC n m),.tok 1] ++ [.tok 1])
     (by rw [List.append_assoc,List.getElem?_append_left hlt]; exact hid) hw (by rw [List.length_cons,ll]; omega) (fun _ => rfl)
   have el : ((n.target.size : Int) :: layM n.target.data.toList).length = 1 + (layM n.target.data.toList).length := by rw [List.length_cons,Nat.add_comm]
   rw [el,List.append_nil] at p1 p2
   have nx1 : ∀ A : AObj,(H ++ [A])[H.length]? = some A := fun A => by simp
   simp only [inoA]
   unfold inoC at p1 p2
   simp (disch := omega) only [wk,tupled,↓reduceIte,reduceEqDiff,reduceEq,reduceAdd,reduceCtorEq,m1,m2,nx1,v1,s1,lp,ap,List.append_nil,List.append_assoc]
   simp only [encs_cons,List.append_assoc,List.cons_append,List.nil_append,List.length_append,List.length_cons,List.length_nil,Nat.zero_add,Nat.reduceAdd] at p1 p2
   simp (disch := omega) only [wk,tupled,↓reduceIte,reduceEqDiff,reduceEq,reduceAdd,reduceCtorEq,p1,p2,runE_none lput,List.append_assoc]
   refine ⟨p3,by simp at p4; omega,fun k hk1 hk2 => ?_⟩
   rw [p5 k hk1 (by simp; omega),List.append_assoc,List.getElem?_append_left hk2]
 obtain ⟨o,H',h,rfl,h2⟩ := this
 exact ⟨H',h,h2⟩
def wordsV (n : Ino) : AV := if okI n then .tup [.sl 1 16 (encs u64A (wordsI n)) .ro,.int .i64 0] else .tup [.sl 0 0 [] .z,.int .i64 240]
theorem wordsV_ok {n : Ino} (h : okI n) : wordsV n = .tup [.sl 1 16 (encs u64A (wordsI n)) .ro,.int .i64 0] := if_pos h
theorem wordsV_no {n : Ino} (h : ¬ okI n) : wordsV n = .tup [.sl 0 0 [] .z,.int .i64 240] := if_neg h
theorem tailI_len {n : Ino} (h : okI n) : (tailI n).length <= 15 := by
 obtain ⟨_,_,h | h | h | h⟩ := h
 . simp [tailI,h.1]
 . have ho : (ofM n.map).isSome = true := by
     have h1 := h.2.2.2.2.2.2
     unfold mapOk at h1
     cases hm : ofM n.map with
     | none => rw [hm] at h1; cases h1
     | some t => rfl
   have := wordsE_len (isSome_right ho).1
   simp [tailI,h.1,this]
 . simp [tailI,h.1]
 . have hl := layM_len n.target.data.toList
   rw [size_data] at hl
   have := h.2.2.2.2.2.2.1
   simp [tailI,h.1,hl]
   omega
theorem put_words {n : Ino} (h : okI n) : putF ((n.kind + 256 * n.links) :: List.replicate 15 0) 1 (tailI n) = wordsI n := by
 have hl := tailI_len h
 have := putF_app (tailI n) [n.kind + 256 * n.links] (List.replicate 15 0) (by simpa using hl)
 rw [List.length_singleton] at this
 rw [List.cons_append,List.nil_append] at this
 rw [this,wordsI,List.drop_replicate]
 simp
theorem wordsI_len {n : Ino} (h : okI n) : (wordsI n).length = 16 := by
 have hl := tailI_len h
 rw [wordsI,List.length_cons,List.length_append,List.length_replicate]
 omega
theorem mapOk_some {l : List Ext} {s : Int} (h : mapOk l s = true) : (ofM l).isSome = true := by
 unfold mapOk at h
 cases hm : ofM l with
 | none => rw [hm] at h; cases h
 | some t => rfl
def layF (k : Int) : FuncId := if k = 1 then 97 else if k = 2 then 105 else if k = 3 then 110 else 90
theorem lay_of (n : Ino) (m : AV) (hm : MapR m n.map) (h : okI n) : LayP (layF n.kind) n m (tailI n) := by
 obtain ⟨_,_,h | h | h | h⟩ := h
 . have e1 : layF n.kind = 90 := by rw [h.1]; rfl
   have e2 : tailI n = [] := by simp [tailI,h.1]
   rw [e1,e2]; exact lay0 n m hm
 . have e1 : layF n.kind = 97 := by rw [h.1]; rfl
   have e2 : tailI n = n.size :: wordsE n.map := by simp [tailI,h.1]
   rw [e1,e2]; exact lay1 n m hm (mapOk_some h.2.2.2.2.2.2) h.2.2.2.2.1 h.2.2.2.2.2.1
 . have e1 : layF n.kind = 105 := by rw [h.1]; rfl
   have e2 : tailI n = [0,n.root,n.parent] := by simp [tailI,h.1]
   rw [e1,e2]; exact lay2 n m hm (by omega) (by omega) (by omega) (by omega)
 . have e1 : layF n.kind = 110 := by rw [h.1]; rfl
   have e2 : tailI n = (n.target.size : Int) :: layM n.target.data.toList := by simp [tailI,h.1]
   rw [e1,e2]; exact lay3 n m hm h.2.2.2.2.2.1 h.2.2.2.2.2.2.1
theorem kindA_lay (k : Int) : ∃ f1 f2 f4,kindA k = .agg [.fn f1 [],.fn f2 [],.fn (layF k) [],.fn f4 []] := by
 unfold kindA layF
 by_cases h1 : k = 1
 . simp only [h1,if_true]; exact ⟨_,_,_,rfl⟩
 by_cases h2 : k = 2
 . simp only [h2,if_true,show ¬ (2 : Int) = 1 by decide,if_false]; exact ⟨_,_,_,rfl⟩
 by_cases h3 : k = 3
 . simp only [h3,if_true,show ¬ (3 : Int) = 1 by decide,show ¬ (3 : Int) = 2 by decide,if_false]; exact ⟨_,_,_,rfl⟩
 simp only [h1,h2,h3,if_false]; exact ⟨_,_,_,rfl⟩
theorem layF_lent (k : Int) : (cbL tab).lent (layF k) = false := by
 unfold layF
 split
 . rfl
 . split
   . rfl
   . split <;> rfl
theorem words_px (n : Ino) (m : AV) (hm : MapR m n.map) (hn : n.map.length <= 1000) (H : Heap) : pcx (cbL tab) 73 [inoA n m] H = some (.plain (wordsV n)) := by
 refine pcx_N rfl (pc_wp (fi := c73) rfl ?_ (by simp [c73]) (by decide) ?_)
 . simp only [pcOn,List.map_cons,List.map_nil,hfL,hf_lend_sl,hf_lend_int,hf_lend_bool,hf_lend_str,hfL_append,Bool.and_self,Bool.and_true,Bool.true_and,c73,lend_inoA hm,hf_inoA hm]
 unfold c73
 rw [List.map_cons,List.map_nil,lend_inoA hm]
 have m1 := hm.one.1
 have m2 := hm.one.2
 have r := fun H => right_px n m hm hn H
 by_cases h : okI n
 case neg =>
   rw [rightR_no h] at r
   rw [wordsV_no h]
   unfold pan240 at r
   simp only [inoA] at r ⊢
   simp (disch := omega) only [wk,tupled,↓reduceIte,reduceEqDiff,reduceEq,reduceAdd,reduceCtorEq,m1,m2,r,List.append_nil]
   rw [ends_left_pan (caught_pan 2 _ _ _ _ _ _ _ (clear71 1 _ _ rfl) rfl)]
   simp (disch := omega) only [wk,tupled,↓reduceIte,reduceEqDiff,reduceEq,reduceAdd,reduceCtorEq,purify,unownT,lend,unown,AV.hf,unown,hfL,Tk.hf]
 rw [rightR_ok h] at r
 rw [wordsV_ok h]
 obtain ⟨f1,f2,f4,hk⟩ := kindA_lay n.kind
 rw [hk] at r
 have hkk := okI_kind h
 have hlk := h.1
 have hlk2 := h.2.1
 have v1 : IntKind.u64.wrap n.kind = n.kind := wrap_u64 (by omega) (by omega)
 have v2 : IntKind.u64.wrap n.links = n.links := wrap_u64 (by omega) (by omega)
 have ww := fun H => w824 n.kind n.links hkk.1 (by omega) hlk (by omega) H
 have em : n.kind % 256 + 256 * n.links = n.kind + 256 * n.links := by omega
 rw [em] at ww
 have z16 : repL 16 [AV.int .u64 0] = encs u64A (List.replicate 16 0) := rfl
 have s16 : List.drop 1 (encs u64A (List.replicate 16 0)) = encs u64A (List.replicate 15 0) := rfl
 have l16 : (encs u64A (List.replicate 16 0)).length = 16 := rfl
 have i16 : (0 : Int) < ((16 : Nat) : Int) := by decide
 have mn : madeN 1 8 [AV.int .u64 0] (.int .i64 16) (.int .i64 16) = some 16 := rfl
 obtain ⟨p1,H2,p2,p3,p4,p5⟩ := lay_of n m hm h 4 ((n.kind + 256 * n.links) :: List.replicate 15 0) [.cells (inoC n m),.cells [.msl 1 4 0 16],.cells [.int .i64 0],.cells [.fn f1 [],.fn f2 [],.fn (layF n.kind) [],.fn f4 []],.cells (AV.int .u64 (n.kind + 256 * n.links) :: encs u64A (List.replicate 15 0))] rfl rfl
 rw [put_words h] at p3
 have q1 : H2[1]? = some (.cells [.msl 1 4 0 16]) := by rw [p5 1 (by decide) (by simp)]; rfl
 have q2 : H2[2]? = some (.cells [.int .i64 0]) := by rw [p5 2 (by decide) (by simp)]; rfl
 have h5 : 5 <= H2.length := p4
 have lf := layF_lent n.kind
 unfold inoC at p1 p2
 simp only [inoA] at r p1 p2 ⊢
 have i0 : (0 : Int).toNat = 0 := rfl
 have q1s : ∀ A,((H2.set 1 A).set 2 (.cells [.int .i64 0]))[1]? = some A := fun A => by rw [List.getElem?_set_ne (by decide),List.getElem?_set_self (by omega)]
 have q2s : ∀ A,(H2.set 1 A)[2]? = some (.cells [.int .i64 0]) := fun A => by rw [List.getElem?_set_ne (by decide)]; exact q2
 have q3s : ∀ A B,((H2.set 1 A).set 2 B)[2]? = some B := fun A B => List.getElem?_set_self (by rw [List.length_set]; omega)
 have q4s : ∀ A B,((H2.set 1 A).set 2 B)[4]? = some (.cells (encs u64A (wordsI n))) := fun A B => by rw [List.getElem?_set_ne (by decide),List.getElem?_set_ne (by decide)]; exact p3
 have w16 := wordsI_len h
 have pf : ∀ A B,purify (some (.ret (.tup [.msl 1 4 0 16,.int .i64 0]),(H2.set 1 A).set 2 B)) = some (.plain (.tup [.sl 1 16 (encs u64A (wordsI n)) .ro,.int .i64 0])) := by
   intro A B
   have c : 0 + 16 * 1 <= (encs u64A (wordsI n)).length /\ hfL (encs u64A (wordsI n)) = true /\ (AV.int .i64 0).hf = true := ⟨by rw [lenU,w16]; decide,hf_u64A _,rfl⟩
   have t : List.take (16 * 1) (List.drop 0 (encs u64A (wordsI n))) = encs u64A (wordsI n) := by rw [List.drop_zero,List.take_of_length_le (by rw [lenU,w16]; decide)]
   simp only [purify,q4s,if_pos c,t]
 simp (disch := omega) only [wk,tupled,↓reduceIte,reduceEqDiff,reduceEq,reduceAdd,reduceCtorEq,m1,m2,r,List.append_nil,mn,z16,l16,i16,i0,v1,v2,ww,s16,p1,p2,runE_none lf,q1,q2,q2s]
 rw [ends_left_ret (caught_ret _ _ _ _)]
 simp (disch := omega) only [wk,tupled,↓reduceIte,reduceEqDiff,reduceEq,reduceAdd,reduceCtorEq,q1s,q3s,pf]
theorem unb (l : List UInt8) (m : Nat) : unbytes (List.take m (encs byA l)) = some (l.take m) := by
 have := encs_take (f := byA) l m
 rw [Nat.mul_one] at this
 rw [this,unbytes_encs]
def w10 (w2 w3 : Int) (r : List Int) : List Int := w2 :: w3 :: r.take 8
def textI (w1 w2 w3 : Int) (r : List Int) : ByteArray := ⟨((bytM (w2 :: w3 :: r)).take w1.toNat).toArray⟩
def decI (w0 w1 w2 w3 : Int) (r : List Int) : Ino :=
 ⟨w0 % 256,w0 / 256 % 16777216,if w0 % 256 = 1 then w1 else 0,if w0 % 256 = 1 then readE (w10 w2 w3 r) else [],if w0 % 256 = 2 then w2 else 0,if w0 % 256 = 2 then w3 else 0,
   if w0 % 256 = 3 then textI w1 w2 w3 r else ⟨#[]⟩⟩
def goodI (w0 w1 w2 w3 : Int) (r : List Int) : Prop := okI (decI w0 w1 w2 w3 r) /\ wordsI (decI w0 w1 w2 w3 r) = w0 :: w1 :: w2 :: w3 :: r
instance (w0 w1 w2 w3 : Int) (r : List Int) : Decidable (goodI w0 w1 w2 w3 r) := inferInstanceAs (Decidable (_ /\ _))
def mapV (l : List Ext) : AV := slvR 3 extA l
theorem MapR.of (l : List Ext) : MapR (mapV l) l := by
 unfold mapV slvR
 cases l with
 | nil => exact MapR.nil
 | cons x r => exact ⟨3,[],.ro,by rw [List.append_nil]; rfl,fun _ => rfl,rfl,rfl⟩
def wlit (w0 w1 w2 w3 : Int) (r : List Int) (rest : List AV) : List AV := .int .u64 w0 :: .int .u64 w1 :: .int .u64 w2 :: .int .u64 w3 :: (encs u64A r ++ rest)
theorem wlit_eq (w0 w1 w2 w3 : Int) (r : List Int) (rest : List AV) : encs u64A (w0 :: w1 :: w2 :: w3 :: r) ++ rest = wlit w0 w1 w2 w3 r rest := rfl
structure WOk (w0 w1 w2 w3 : Int) (r : List Int) (rest : List AV) : Prop where
 len : r.length = 12
 u0 : 0 <= w0 /\ w0 < 18446744073709551616
 u1 : 0 <= w1 /\ w1 < 18446744073709551616
 u2 : 0 <= w2 /\ w2 < 18446744073709551616
 u3 : 0 <= w3 /\ w3 < 18446744073709551616
 ur : ∀ x ∈ r,0 <= x /\ x < 18446744073709551616
 hf : hfL rest = true
theorem WOk.w10 {w0 w1 w2 w3 : Int} {r : List Int} {rest : List AV} (h : WOk w0 w1 w2 w3 r rest) : (w10 w2 w3 r).length = 10 /\ ∀ x ∈ w10 w2 w3 r,0 <= x /\ x < 18446744073709551616 := by
 refine ⟨by simp [Go.Proofs.YtobhofmicgmjfaaGreat.w10,h.len],fun x hx => ?_⟩
 rcases List.mem_cons.1 hx with rfl | hx
 . exact h.u2
 rcases List.mem_cons.1 hx with rfl | hx
 . exact h.u3
 exact h.ur x (List.mem_of_mem_take hx)
theorem t8 {w0 w1 w2 w3 : Int} {r : List Int} {rest : List AV} (h : WOk w0 w1 w2 w3 r rest) : List.take 8 (encs u64A r ++ rest) = encs u64A (r.take 8) := by
 rw [List.take_append_of_le_length (by rw [lenU,h.len]; decide),encs_mapU,encs_mapU,List.map_take]
def TakeOk (f : FuncId) (w0 w1 w2 w3 : Int) (r : List Int) (rest : List AV) (u : Tk) (n n' : Ino) : Prop := ∀ (id : Nat) (H : Heap),H[id]? = some (.cells (inoC n nilm')) →
 ∃ H',(cbL tab).ic f [.ptr id 0,.sl 1 16 (wlit w0 w1 w2 w3 r rest) u] H = some (.ret (.tup []),H') /\ H'[id]? = some (.cells (inoC n' (mapV n'.map))) /\ H.length <= H'.length /\ ∀ k,k ≠ id -> k < H.length -> H'[k]? = H[k]?
def TakeNo (f : FuncId) (w0 w1 w2 w3 : Int) (r : List Int) (rest : List AV) (u : Tk) (n : Ino) : Prop := ∀ (id : Nat) (H : Heap),H[id]? = some (.cells (inoC n nilm')) →
 ∃ H',(cbL tab).ic f [.ptr id 0,.sl 1 16 (wlit w0 w1 w2 w3 r rest) u] H = some (.pan [(.iface 35 (.int .i64 240),false)],H') /\ H.length <= H'.length /\ ∀ k,k ≠ id -> k < H.length -> H'[k]? = H[k]?
theorem take_none (f : FuncId) (hl : (cbL tab).lent f = false) (fi : AFun) (ht : tab f = some fi) (hmode : fi.mode = 1) (id : Nat) (v : AV) (H : Heap) (hcon : fi.con = none := by rfl) : pcx (cbL tab) f [.ptr id 0,v] H = none :=
 pcx_none hl (pc_none ht (by simp [pcOn,hmode,lend,unown,hfL,AV.hf]) hcon)
theorem take0 (w0 w1 w2 w3 : Int) (r : List Int) (rest : List AV) (u : Tk) (n : Ino) (hn : n.map = []) : TakeOk 91 w0 w1 w2 w3 r rest u n n := by
 intro id H hid
 have : ∃ o H',(cbL tab).ic 91 [.ptr id 0,.sl 1 16 (wlit w0 w1 w2 w3 r rest) u] H = some (o,H') /\ o = .ret (.tup []) /\ H' = H := by
   refine ic_wp (fi := c91) rfl rfl (by simp [c91]) (by decide) ?_
   unfold c91
   simp (disch := omega) only [wk,tupled,↓reduceIte,reduceEqDiff,reduceEq,reduceAdd,reduceCtorEq]
 obtain ⟨o,H',h,rfl,rfl⟩ := this
 refine ⟨_,h, ?_,Nat.le_refl _,fun _ _ _ => rfl⟩
 rw [hn]; exact hid
theorem take2_ok (w0 w1 w2 w3 : Int) (r : List Int) (rest : List AV) (u : Tk) (k l : Int) (hw : WOk w0 w1 w2 w3 r rest) (h : (1 <= w2 /\ w2 <= 2047) /\ (1 <= w3 /\ w3 <= 256)) :
   TakeOk 106 w0 w1 w2 w3 r rest u ⟨k,l,0,[],0,0,⟨#[]⟩⟩ ⟨k,l,0,[],w2,w3,⟨#[]⟩⟩ := by
 intro id H hid
 have hlt : id < H.length := (List.getElem?_eq_some_iff.1 hid).1
 have : ∃ o H',(cbL tab).ic 106 [.ptr id 0,.sl 1 16 (wlit w0 w1 w2 w3 r rest) u] H = some (o,H') /\ o = .ret (.tup []) /\ H'[id]? = some (.cells (inoC ⟨k,l,0,[],w2,w3,⟨#[]⟩⟩ nilm')) /\ H.length <= H'.length /\ ∀ k,k ≠ id -> k < H.length -> H'[k]? = H[k]? := by
   refine ic_wp (fi := c106) rfl rfl (by simp [c106]) (by decide) ?_
   unfold c106 wlit
   unfold inoC nilm' at hid ⊢
   have i2 : (2 : Int).toNat = 2 := rfl
   have i3 : (3 : Int).toNat = 3 := rfl
   have p1 := fun H => inw_px w2 1 2047 H
   have p2 := fun H => inw_px w3 1 256 H
   have mt := fun H => must_t H
   rw [decide_eq_true h.1] at p1
   rw [decide_eq_true h.2] at p2
   have v1 : IntKind.i64.wrap w2 = w2 := wrap_i64 (by omega) (by omega)
   have v2 : IntKind.i64.wrap w3 = w3 := wrap_i64 (by omega) (by omega)
   have sg : ∀ A,(H.set id A)[id]? = some A := fun A => List.getElem?_set_self hlt
   simp (disch := omega) only [wk,tupled,↓reduceIte,reduceEqDiff,reduceEq,reduceAdd,reduceCtorEq,i2,i3,p1,p2,mt,v1,v2,hid,fve,sg,List.set_set]
   exact ⟨by rw [List.length_set]; exact Nat.le_refl _,fun k hk _ => List.getElem?_set_ne (fun e => hk e.symm)⟩
 obtain ⟨o,H',h,rfl,h2⟩ := this
 exact ⟨H',h,h2⟩
theorem take2_no (w0 w1 w2 w3 : Int) (r : List Int) (rest : List AV) (u : Tk) (n : Ino) (hw : WOk w0 w1 w2 w3 r rest) (h : ¬ ((1 <= w2 /\ w2 <= 2047) /\ (1 <= w3 /\ w3 <= 256))) :
   TakeNo 106 w0 w1 w2 w3 r rest u n := by
 intro id H hid
 have : ∃ o H',(cbL tab).ic 106 [.ptr id 0,.sl 1 16 (wlit w0 w1 w2 w3 r rest) u] H = some (o,H') /\ o = .pan [(.iface 35 (.int .i64 240),false)] /\ H' = H := by
   refine ic_wp (fi := c106) rfl rfl (by simp [c106]) (by decide) ?_
   unfold c106 wlit
   have i2 : (2 : Int).toNat = 2 := rfl
   have i3 : (3 : Int).toNat = 3 := rfl
   have p1 := fun H => inw_px w2 1 2047 H
   have p2 := fun H => inw_px w3 1 256 H
   have mf := fun H => must_f H
   by_cases h1 : 1 <= w2 /\ w2 <= 2047
   . have h2 : ¬ (1 <= w3 /\ w3 <= 256) := fun h2 => h ⟨h1,h2⟩
     rw [decide_eq_true h1] at p1
     rw [decide_eq_false h2] at p2
     clear h h1 h2
     simp (disch := omega) only [wk,tupled,↓reduceIte,reduceEqDiff,reduceEq,reduceAdd,reduceCtorEq,i2,i3,p1,p2,mf]
   . rw [decide_eq_false h1] at p1
     clear h h1
     simp (disch := omega) only [wk,tupled,↓reduceIte,reduceEqDiff,reduceEq,reduceAdd,reduceCtorEq,i2,i3,p1,mf]
 obtain ⟨o,H',h,rfl,rfl⟩ := this
 exact ⟨_,h,Nat.le_refl _,fun _ _ _ => rfl⟩
theorem take1_ok (w0 w1 w2 w3 : Int) (r : List Int) (rest : List AV) (u : Tk) (k l : Int) (hw : WOk w0 w1 w2 w3 r rest) (h1 : 0 <= w1 /\ w1 <= 65536) (h2 : (ofM (readE (w10 w2 w3 r))).isSome = true /\ wordsE (readE (w10 w2 w3 r)) = w10 w2 w3 r) :
   TakeOk 100 w0 w1 w2 w3 r rest u ⟨k,l,0,[],0,0,⟨#[]⟩⟩ ⟨k,l,w1,readE (w10 w2 w3 r),0,0,⟨#[]⟩⟩ := by
 intro id H hid
 have hlt : id < H.length := (List.getElem?_eq_some_iff.1 hid).1
 have : ∃ o H',(cbL tab).ic 100 [.ptr id 0,.sl 1 16 (wlit w0 w1 w2 w3 r rest) u] H = some (o,H') /\ o = .ret (.tup []) /\ H'[id]? = some (.cells (inoC ⟨k,l,w1,readE (w10 w2 w3 r),0,0,⟨#[]⟩⟩ (mapV (readE (w10 w2 w3 r))))) /\ H.length <= H'.length /\ ∀ k,k ≠ id -> k < H.length -> H'[k]? = H[k]? := by
   refine ic_wp (fi := c100) rfl rfl (by simp [c100]) (by decide) ?_
   unfold c100 wlit
   unfold inoC nilm' at hid
   unfold inoC
   have i1 : (1 : Int).toNat = 1 := rfl
   have i2 : (2 : Int).toNat = 2 := rfl
   have i12 : (12 : Int).toNat = 12 := rfl
   have p1 := fun H => inw_px w1 0 65536 H
   rw [decide_eq_true h1] at p1
   have mt := fun H => must_t H
   have xr := fun H => xread_px (w10 w2 w3 r) hw.w10.1 hw.w10.2 H
   have er : readR (w10 w2 w3 r) = (readE (w10 w2 w3 r),0) := if_pos h2
   rw [er] at xr
   have ea : arrV (w10 w2 w3 r) = .agg (.int .u64 w2 :: .int .u64 w3 :: encs u64A (r.take 8)) := rfl
   rw [ea] at xr
   simp only [readV] at xr
   have tt := t8 hw
   have lr : (encs u64A r).length = 12 := by rw [lenU,hw.len]
   have v1 : IntKind.i64.wrap w1 = w1 := wrap_i64 (by omega) (by omega)
   have sg : ∀ A,(H.set id A)[id]? = some A := fun A => List.getElem?_set_self hlt
   have mv1 := (MapR.of (readE (w10 w2 w3 r))).one.1
   have mv2 := (MapR.of (readE (w10 w2 w3 r))).one.2
   unfold mapV at mv1 mv2 ⊢
   simp (disch := omega) only [wk,tupled,↓reduceIte,reduceEqDiff,reduceEq,reduceAdd,reduceCtorEq,i1,i2,i12,p1,xr,mt,tt,lr,v1,hid,sg,List.set_set,mv1,mv2]
   exact ⟨by rw [List.length_set]; exact Nat.le_refl _,fun k hk _ => List.getElem?_set_ne (fun e => hk e.symm)⟩
 obtain ⟨o,H',h,rfl,h2⟩ := this
 exact ⟨H',h,h2⟩
theorem take1_no (w0 w1 w2 w3 : Int) (r : List Int) (rest : List AV) (u : Tk) (n : Ino) (hw : WOk w0 w1 w2 w3 r rest) (h : ¬ ((0 <= w1 /\ w1 <= 65536) /\ (ofM (readE (w10 w2 w3 r))).isSome = true /\ wordsE (readE (w10 w2 w3 r)) = w10 w2 w3 r)) :
   TakeNo 100 w0 w1 w2 w3 r rest u n := by
 intro id H hid
 have : ∃ o H',(cbL tab).ic 100 [.ptr id 0,.sl 1 16 (wlit w0 w1 w2 w3 r rest) u] H = some (o,H') /\ o = .pan [(.iface 35 (.int .i64 240),false)] /\ H' = H := by
   refine ic_wp (fi := c100) rfl rfl (by simp [c100]) (by decide) ?_
   unfold c100 wlit
   have i1 : (1 : Int).toNat = 1 := rfl
   have i2 : (2 : Int).toNat = 2 := rfl
   have i12 : (12 : Int).toNat = 12 := rfl
   have p1 := fun H => inw_px w1 0 65536 H
   have mf := fun H => must_f H
   have xr := fun H => xread_px (w10 w2 w3 r) hw.w10.1 hw.w10.2 H
   have ea : arrV (w10 w2 w3 r) = .agg (.int .u64 w2 :: .int .u64 w3 :: encs u64A (r.take 8)) := rfl
   rw [ea] at xr
   have tt := t8 hw
   have lr : (encs u64A r).length = 12 := by rw [lenU,hw.len]
   by_cases h2 : (ofM (readE (w10 w2 w3 r))).isSome = true /\ wordsE (readE (w10 w2 w3 r)) = w10 w2 w3 r
   . have er : readR (w10 w2 w3 r) = (readE (w10 w2 w3 r),0) := if_pos h2
     have h1 : ¬ (0 <= w1 /\ w1 <= 65536) := fun h1 => h ⟨h1,h2⟩
     rw [er] at xr
     rw [decide_eq_false h1] at p1
     simp only [readV] at xr
     clear h h1 h2
     simp (disch := omega) only [wk,tupled,↓reduceIte,reduceEqDiff,reduceEq,reduceAdd,reduceCtorEq,i1,i2,i12,p1,xr,mf,tt,lr]
   . have er : readR (w10 w2 w3 r) = ([],2) := if_neg h2
     rw [er] at xr
     simp only [readV] at xr
     clear h h2
     simp (disch := omega) only [wk,tupled,↓reduceIte,reduceEqDiff,reduceEq,reduceAdd,reduceCtorEq,i1,i2,i12,xr,mf,tt,lr]
 obtain ⟨o,H',h,rfl,rfl⟩ := this
 exact ⟨_,h,Nat.le_refl _,fun _ _ _ => rfl⟩
theorem take3_no (w0 w1 w2 w3 : Int) (r : List Int) (rest : List AV) (u : Tk) (n : Ino) (hw : WOk w0 w1 w2 w3 r rest) (h : ¬ (1 <= w1 /\ w1 <= 112)) :
   TakeNo 112 w0 w1 w2 w3 r rest u n := by
 intro id H hid
 have : ∃ o H',(cbL tab).ic 112 [.ptr id 0,.sl 1 16 (wlit w0 w1 w2 w3 r rest) u] H = some (o,H') /\ o = .pan [(.iface 35 (.int .i64 240),false)] /\ H' = H := by
   refine ic_wp (fi := c112) rfl rfl (by simp [c112]) (by decide) ?_
   unfold c112 wlit
   have i1 : (1 : Int).toNat = 1 := rfl
   have p1 := fun H => inw_px w1 1 112 H
   rw [decide_eq_false h] at p1
   have mf := fun H => must_f H
   clear h
   simp (disch := omega) only [wk,tupled,↓reduceIte,reduceEqDiff,reduceEq,reduceAdd,reduceCtorEq,i1,p1,mf]
 obtain ⟨o,H',h,rfl,rfl⟩ := this
 exact ⟨_,h,Nat.le_refl _,fun _ _ _ => rfl⟩
theorem take3_ok (w0 w1 w2 w3 : Int) (r : List Int) (rest : List AV) (u : Tk) (k l : Int) (hw : WOk w0 w1 w2 w3 r rest) (h1 : 1 <= w1 /\ w1 <= 112) :
   TakeOk 112 w0 w1 w2 w3 r rest u ⟨k,l,0,[],0,0,⟨#[]⟩⟩ ⟨k,l,0,[],0,0,textI w1 w2 w3 r⟩ := by
 intro id H hid
 have hlt : id < H.length := (List.getElem?_eq_some_iff.1 hid).1
 have : ∃ o H',(cbL tab).ic 112 [.ptr id 0,.sl 1 16 (wlit w0 w1 w2 w3 r rest) u] H = some (o,H') /\ o = .ret (.tup []) /\ H'[id]? = some (.cells (inoC ⟨k,l,0,[],0,0,textI w1 w2 w3 r⟩ nilm')) /\ H.length <= H'.length /\ ∀ k,k ≠ id -> k < H.length -> H'[k]? = H[k]? := by
   refine ic_wp (fi := c112) rfl rfl (by simp [c112]) (by decide) ?_
   unfold c112 wlit
   unfold inoC nilm' at hid ⊢
   have i1 : (1 : Int).toNat = 1 := rfl
   have i2 : (2 : Int).toNat = 2 := rfl
   have i14 : 16 - 2 = 14 := rfl
   have p1 := fun H => inw_px w1 1 112 H
   rw [decide_eq_true h1] at p1
   have mt := fun H => must_t H
   have bv := fun H => bytes_v (l := w2 :: w3 :: r) (rest := rest) (s := 1) (tk := .ro) (H := H) (lendK_sl ..) (by simp [hw.len]) rfl hw.hf (fun x hx => by
     rcases List.mem_cons.1 hx with rfl | hx
     . exact hw.u2
     rcases List.mem_cons.1 hx with rfl | hx
     . exact hw.u3
     exact hw.ur x hx) rfl
   have l14 : (w2 :: w3 :: r).length = 14 := by simp [hw.len]
   have eb : encs u64A (w2 :: w3 :: r) ++ rest = .int .u64 w2 :: .int .u64 w3 :: (encs u64A r ++ rest) := rfl
   rw [l14,eb] at bv
   have lB : (bytM (w2 :: w3 :: r)).length = 112 := by rw [bytM_len,l14]
   have lC : (encs byA (bytM (w2 :: w3 :: r))).length = 112 := by rw [encs_length (k := 1),lB]
   have nB : bytM (w2 :: w3 :: r) ≠ [] := by intro e; rw [e] at lB; cases lB
   have pB : prRow 1 byA (bytM (w2 :: w3 :: r)) = .fresh 1 112 (encs byA (bytM (w2 :: w3 :: r))) := by rw [prRow_ne nB,lB]
   have mle : w1.toNat <= 112 := by omega
   have m0 : 0 <= w1 := by omega
   have hsl : ∀ g,(if w1.toNat = 112 then AV.sl 1 112 (encs byA (bytM (w2 :: w3 :: r))) (.own g) else .sl 1 w1.toNat (encs byA (bytM (w2 :: w3 :: r))) .ro) = .sl 1 w1.toNat (encs byA (bytM (w2 :: w3 :: r))) (if w1.toNat = 112 then .own g else .ro) := by
     intro g
     split
     . rename_i h; rw [h]
     . rfl
   have lr : (encs u64A r).length = 12 := by rw [lenU,hw.len]
   have eT : ByteArray.mk (List.toArray ((bytM (w2 :: w3 :: r)).take w1.toNat)) = textI w1 w2 w3 r := rfl
   have up : ∀ A : AObj,(H ++ [A])[id]? = H[id]? := fun A => List.getElem?_append_left hlt
   simp (disch := omega) only [wk,tupled,↓reduceIte,reduceEqDiff,reduceEq,reduceAdd,reduceCtorEq,i1,i2,i14,p1,bv,pB,mt,lr,lC,mle,m0,hsl,unb,eT,hid,up,true_or,Nat.le_add_left,Nat.le_add_right]
   exact ⟨List.getElem?_set_self (by simp; omega),by simp,fun k hk hk2 => by rw [List.getElem?_set_ne (fun e => hk e.symm),List.getElem?_append_left hk2]⟩
 obtain ⟨o,H',h,rfl,h2⟩ := this
 exact ⟨H',h,h2⟩
def takeF (k : Int) : FuncId := if k = 1 then 100 else if k = 2 then 106 else if k = 3 then 112 else 91
theorem takeF_none (k : Int) (id : Nat) (v : AV) (H : Heap) : pcx (cbL tab) (takeF k) [.ptr id 0,v] H = none := by
 unfold takeF
 split
 . exact take_none _ rfl c100 rfl rfl id v H
 split
 . exact take_none _ rfl c106 rfl rfl id v H
 split
 . exact take_none _ rfl c112 rfl rfl id v H
 . exact take_none _ rfl c91 rfl rfl id v H
theorem takeF_lent (k : Int) : (cbL tab).lent (takeF k) = false := by
 unfold takeF
 split
 . rfl
 split
 . rfl
 split <;> rfl
theorem kindA_take (k : Int) : ∃ f1 f2 f3,kindA k = .agg [.fn f1 [],.fn f2 [],.fn f3 [],.fn (takeF k) []] := by
 unfold kindA takeF
 by_cases h1 : k = 1
 . simp only [h1,if_true]; exact ⟨_,_,_,rfl⟩
 by_cases h2 : k = 2
 . simp only [h2,if_true,show ¬ (2 : Int) = 1 by decide,if_false]; exact ⟨_,_,_,rfl⟩
 by_cases h3 : k = 3
 . simp only [h3,if_true,show ¬ (3 : Int) = 1 by decide,show ¬ (3 : Int) = 2 by decide,if_false]; exact ⟨_,_,_,rfl⟩
 simp only [h1,h2,h3,if_false]; exact ⟨_,_,_,rfl⟩
theorem find_k {k : Int} (h0 : 0 <= k) (h3 : k <= 3) : ∃ i,findA 0 (.int .i64 k) kindsE 0 = some (some (i,kindA k)) := by
 have : k = 0 ∨ k = 1 ∨ k = 2 ∨ k = 3 := by omega
 rcases this with rfl | rfl | rfl | rfl
 . exact ⟨_,find0⟩
 . exact ⟨_,find1⟩
 . exact ⟨_,find2⟩
 . exact ⟨_,find3⟩
theorem take_all (w0 w1 w2 w3 : Int) (r : List Int) (rest : List AV) (u : Tk) (hw : WOk w0 w1 w2 w3 r rest) (hk : w0 % 256 <= 3) :
   TakeOk (takeF (w0 % 256)) w0 w1 w2 w3 r rest u ⟨w0 % 256,w0 / 256 % 16777216,0,[],0,0,⟨#[]⟩⟩ (decI w0 w1 w2 w3 r) ∨
   (TakeNo (takeF (w0 % 256)) w0 w1 w2 w3 r rest u ⟨w0 % 256,w0 / 256 % 16777216,0,[],0,0,⟨#[]⟩⟩ /\ ¬ goodI w0 w1 w2 w3 r) := by
 have hcase : w0 % 256 = 0 ∨ w0 % 256 = 1 ∨ w0 % 256 = 2 ∨ w0 % 256 = 3 := by have := hw.u0; omega
 rcases hcase with h | h | h | h
 . left
   have e : decI w0 w1 w2 w3 r = ⟨0,w0 / 256 % 16777216,0,[],0,0,⟨#[]⟩⟩ := by simp [decI,h]
   rw [e,h]
   exact take0 w0 w1 w2 w3 r rest u _ rfl
 . have e : decI w0 w1 w2 w3 r = ⟨1,w0 / 256 % 16777216,w1,readE (w10 w2 w3 r),0,0,⟨#[]⟩⟩ := by simp [decI,h]
   by_cases c : (0 <= w1 /\ w1 <= 65536) /\ (ofM (readE (w10 w2 w3 r))).isSome = true /\ wordsE (readE (w10 w2 w3 r)) = w10 w2 w3 r
   . left
     rw [e,h]
     exact take1_ok w0 w1 w2 w3 r rest u _ _ hw c.1 c.2
   . right
     refine ⟨by rw [h]; exact take1_no w0 w1 w2 w3 r rest u _ hw c,fun hg => c ?_⟩
     obtain ⟨g1,g2⟩ := hg
     rw [e] at g1 g2
     obtain ⟨_,_,a,b,d⟩ := (okI_1 rfl).1 g1
     refine ⟨⟨a,b⟩,mapOk_some d, ?_⟩
     have hl := wordsE_len (isSome_right (mapOk_some d)).1
     have ht : tailI ⟨1,w0 / 256 % 16777216,w1,readE (w10 w2 w3 r),0,0,⟨#[]⟩⟩ = w1 :: wordsE (readE (w10 w2 w3 r)) := rfl
     unfold wordsI at g2
     rw [ht] at g2
     simp only [List.cons_append,List.cons.injEq] at g2
     have g3 := congrArg (List.take 10) g2.2.2
     rw [List.take_append_of_le_length (by rw [hl]; exact Nat.le_refl _),List.take_of_length_le (by rw [hl]; exact Nat.le_refl _)] at g3
     exact g3
 . have e : decI w0 w1 w2 w3 r = ⟨2,w0 / 256 % 16777216,0,[],w2,w3,⟨#[]⟩⟩ := by simp [decI,h]
   by_cases c : (1 <= w2 /\ w2 <= 2047) /\ (1 <= w3 /\ w3 <= 256)
   . left
     rw [e,h]
     exact take2_ok w0 w1 w2 w3 r rest u _ _ hw c
   . right
     refine ⟨by rw [h]; exact take2_no w0 w1 w2 w3 r rest u _ hw c,fun hg => c ?_⟩
     obtain ⟨g1,_⟩ := hg
     rw [e] at g1
     obtain ⟨_,_,a,b,d,f⟩ := (okI_2 rfl).1 g1
     exact ⟨⟨a,b⟩,⟨d,f⟩⟩
 . have e : decI w0 w1 w2 w3 r = ⟨3,w0 / 256 % 16777216,0,[],0,0,textI w1 w2 w3 r⟩ := by simp [decI,h]
   by_cases c : 1 <= w1 /\ w1 <= 112
   . left
     rw [e,h]
     exact take3_ok w0 w1 w2 w3 r rest u _ _ hw c
   . right
     refine ⟨by rw [h]; exact take3_no w0 w1 w2 w3 r rest u _ hw c,fun hg => c ?_⟩
     obtain ⟨g1,g2⟩ := hg
     rw [e] at g1 g2
     obtain ⟨_,_,a,b,d⟩ := (okI_3 rfl).1 g1
     have ht : tailI ⟨3,w0 / 256 % 16777216,0,[],0,0,textI w1 w2 w3 r⟩ = ((textI w1 w2 w3 r).size : Int) :: layM (textI w1 w2 w3 r).data.toList := rfl
     unfold wordsI at g2
     rw [ht] at g2
     simp only [List.cons_append,List.cons.injEq] at g2
     have g3 := g2.2.1
     simp only at a b
     omega
theorem clear66 (o : Nat) (x : List AV) (H : Heap) (hx : H[o]? = some (.cells x)) (hl : x.length = 7) : enterA (cbL tab) 69 [.ptr o 0] H = some (.ret (.tup []),H.set o (.cells (inoC zeroI nilm'))) := by
 have : ∃ q H',(cbL tab).ic 69 [.ptr o 0] H = some (q,H') /\ q = .ret (.tup []) /\ H' = H.set o (.cells (inoC zeroI nilm')) := by
   refine ic_wp (fi := c69) rfl rfl (by simp [c69]) (by decide) ?_
   unfold c69
   have d7 : List.drop 7 x = [] := List.drop_of_length_le (by omega)
   have z : inoC zeroI nilm' = [.int .i64 0,.int .i64 0,.int .i64 0,.sl 0 0 [] .z,.int .i64 0,.int .i64 0,.str ⟨#[]⟩] := rfl
   rw [z]
   simp (disch := omega) only [wk,tupled,↓reduceIte,reduceEqDiff,reduceEq,reduceAdd,reduceCtorEq,hx,hl,d7,List.append_nil]
 obtain ⟨q,H',h,rfl,rfl⟩ := this
 exact enterA_ic rfl (pc_none (fi := c69) rfl rfl) h
def ofIV (n : Ino) (e : Int) : AV := .tup [inoA n (mapV n.map),.int .i64 e]
theorem purify_ofI (n : Ino) (e : Int) (H : Heap) : purify (some (.ret (.tup [inoA n (mapV n.map),.int .i64 e]),H)) = some (.plain (ofIV n e)) := by
 have hm := MapR.of n.map
 have hu : unownT (.tup [inoA n (mapV n.map),.int .i64 e]) = .tup [inoA n (mapV n.map),.int .i64 e] := by
   simp only [unownT,List.map_cons,List.map_nil,lend_inoA hm,lend_int]
 have h : (AV.tup [inoA n (mapV n.map),.int .i64 e]).hf = true := by
   show ((inoA n (mapV n.map)).hf && _) = true
   rw [hf_inoA hm]; rfl
 show (if (unownT (.tup [inoA n (mapV n.map),.int .i64 e])).hf then some (PR.plain (unownT (.tup [inoA n (mapV n.map),.int .i64 e]))) else none) = _
 rw [hu,if_pos h]; rfl
def ofI (w0 w1 w2 w3 : Int) (r : List Int) : Ino × Int := if w0 = 0 then (zeroI,0) else if goodI w0 w1 w2 w3 r then (decI w0 w1 w2 w3 r,0) else (zeroI,240)
theorem xofI_px (w0 w1 w2 w3 : Int) (r : List Int) (rest : List AV) (tk : Tk) (H : Heap) (hw : WOk w0 w1 w2 w3 r rest) :
   pcx (cbL tab) 50 [.sl 1 16 (wlit w0 w1 w2 w3 r rest) tk] H = some (.plain (ofIV (ofI w0 w1 w2 w3 r).1 (ofI w0 w1 w2 w3 r).2)) := by
 obtain ⟨u1,e1,f1⟩ := lend_sl 1 16 (wlit w0 w1 w2 w3 r rest) tk
 refine pcx_N rfl (pc_wp (fi := c50) rfl ?_ (by simp [c50]) (by decide) ?_)
 . rw [<- wlit_eq]; simp only [pcOn,List.map_cons,List.map_nil,hfL,hf_lend_sl,hf_lend_int,hf_lend_bool,hf_lend_str,hfL_append,Bool.and_self,Bool.and_true,Bool.true_and,c50,hf_u64A,hw.hf]
 unfold c50
 rw [List.map_cons,List.map_nil,e1]
 have mt := fun H => must_t H
 have mf := fun H => must_f H
 have pz := fun e H => purify_ofI zeroI e H
 have ez : inoA zeroI (mapV zeroI.map) = .agg [.int .i64 0,.int .i64 0,.int .i64 0,.sl 0 0 [] .z,.int .i64 0,.int .i64 0,.str ⟨#[]⟩] := rfl
 have ec : inoC zeroI nilm' = [.int .i64 0,.int .i64 0,.int .i64 0,.sl 0 0 [] .z,.int .i64 0,.int .i64 0,.str ⟨#[]⟩] := rfl
 have i16 : ((16 : Nat) : Int) = 16 := rfl
 have i0 : (0 : Int).toNat = 0 := rfl
 have ro : ofI w0 w1 w2 w3 r = if w0 = 0 then (zeroI,0) else if goodI w0 w1 w2 w3 r then (decI w0 w1 w2 w3 r,0) else (zeroI,240) := rfl
 rw [ez] at pz
 by_cases h0 : w0 = 0
 . rw [if_pos h0] at ro
   rw [ro]
   subst h0
   unfold wlit
   simp (disch := omega) only [wk,tupled,↓reduceIte,reduceEqDiff,reduceEq,reduceAdd,reduceCtorEq,i16,i0,mt]
   rw [ends_left_ret (caught_ret _ _ _ _)]
   simp (disch := omega) only [wk,tupled,↓reduceIte,reduceEqDiff,reduceEq,reduceAdd,reduceCtorEq,pz]
 rw [if_neg h0] at ro
 have fa := fun H => f08 w0 hw.u0.1 hw.u0.2 H
 have fb := fun H => f824 w0 hw.u0.1 hw.u0.2 H
 have v1 : IntKind.i64.wrap (w0 % 256) = w0 % 256 := wrap_i64 (by omega) (by omega)
 have v2 : IntKind.i64.wrap (w0 / 256 % 16777216) = w0 / 256 % 16777216 := wrap_i64 (by omega) (by omega)
 have kp := fun H => kinds_px H
 by_cases hk : w0 % 256 <= 3
 case neg =>
   have hg : ¬ goodI w0 w1 w2 w3 r := fun h => by have := okI_kind h.1; simp only [decI] at this; omega
   rw [if_neg hg] at ro
   rw [ro]
   have fd := find_no (k := w0 % 256) (by omega) (by omega) (by omega) (by omega)
   unfold wlit
   simp (disch := omega) only [wk,tupled,↓reduceIte,reduceEqDiff,reduceEq,reduceAdd,reduceCtorEq,i16,i0,mt,h0,fa,fb,v1,v2,kp,List.getElem?_nil,fd,cellEq_ii,mf]
   rw [ends_left_pan (caught_pan 1 _ _ _ _ _ _ _ (clear66 0 _ _ rfl rfl) rfl),ec]
   simp (disch := omega) only [wk,tupled,↓reduceIte,reduceEqDiff,reduceEq,reduceAdd,reduceCtorEq,pz]
 obtain ⟨q,fd⟩ := find_k (k := w0 % 256) (by omega) hk
 obtain ⟨f1',f2',f3',hka⟩ := kindA_take (w0 % 256)
 rw [hka] at fd
 have tn := fun v H => takeF_none (w0 % 256) 2 v H
 have tl := takeF_lent (w0 % 256)
 obtain ⟨Hd,hHd⟩ : ∃ Hd : Heap,Hd = [.cells [.int .i64 0,.int .i64 0,.int .i64 0,.sl 0 0 [] .z,.int .i64 0,.int .i64 0,.str ⟨#[]⟩],.cells [.int .i64 0],.cells (inoC ⟨w0 % 256,w0 / 256 % 16777216,0,[],0,0,⟨#[]⟩⟩ nilm'),.map kindsE,.cells [.fn f1' [],.fn f2' [],.fn f3' [],.fn (takeF (w0 % 256)) []]] := ⟨_,rfl⟩
 rcases take_all w0 w1 w2 w3 r rest u1 hw hk with ht | ⟨ht,hg⟩
 . obtain ⟨H2,p2,p3,p4,p5⟩ := ht 2 Hd (by rw [hHd]; rfl)
   have q0 : H2[0]? = some (.cells [.int .i64 0,.int .i64 0,.int .i64 0,.sl 0 0 [] .z,.int .i64 0,.int .i64 0,.str ⟨#[]⟩]) := by rw [p5 0 (by decide) (by rw [hHd]; simp),hHd]; rfl
   have q1 : H2[1]? = some (.cells [.int .i64 0]) := by rw [p5 1 (by decide) (by rw [hHd]; simp),hHd]; rfl
   have s0 : 0 < H2.length := (List.getElem?_eq_some_iff.1 q0).1
   have s1 : 1 < H2.length := (List.getElem?_eq_some_iff.1 q1).1
   have s2 : 2 < H2.length := (List.getElem?_eq_some_iff.1 p3).1
   have g0 : ∀ A B,((H2.set 0 A).set 1 B)[0]? = some A := fun A B => by rw [List.getElem?_set_ne (by decide),List.getElem?_set_self s0]
   have g1 : ∀ A B,((H2.set 0 A).set 1 B)[1]? = some B := fun A B => List.getElem?_set_self (by rw [List.length_set]; exact s1)
   have g2 : ∀ A,(H2.set 0 A)[1]? = some (.cells [.int .i64 0]) := fun A => by rw [List.getElem?_set_ne (by decide)]; exact q1
   rw [hHd] at p2
   have hml : (decI w0 w1 w2 w3 r).map.length <= 1000 := by
     simp only [decI]
     split
     . have := readE_len (w10 w2 w3 r)
       have := hw.w10.1
       omega
     . simp
   have wp := fun H => words_px (decI w0 w1 w2 w3 r) (mapV (decI w0 w1 w2 w3 r).map) (MapR.of _) hml H
   have mo1 := (MapR.of (decI w0 w1 w2 w3 r).map).one.1
   have mo2 := (MapR.of (decI w0 w1 w2 w3 r).map).one.2
   have pd := fun H => purify_ofI (decI w0 w1 w2 w3 r) 0 H
   simp only [inoA] at wp pd
   unfold wlit inoC nilm' at p2
   unfold inoC at p3
   unfold wlit
   by_cases ho : okI (decI w0 w1 w2 w3 r)
   case neg =>
     have hg : ¬ goodI w0 w1 w2 w3 r := fun h => ho h.1
     rw [if_neg hg] at ro
     rw [ro]
     rw [wordsV_no ho] at wp
     simp (disch := omega) only [wk,tupled,↓reduceIte,reduceEqDiff,reduceEq,reduceAdd,reduceCtorEq,i16,i0,mt,h0,fa,fb,v1,v2,kp,List.getElem?_nil,fd,cellEq_ii,tn,runE_none tl,p2,p3,wp,mf]
     rw [ends_left_pan (caught_pan 1 _ _ _ _ _ _ _ (clear66 0 _ _ q0 rfl) (by rw [List.getElem?_set_ne (by decide)]; exact q1)),ec]
     simp (disch := omega) only [wk,tupled,↓reduceIte,reduceEqDiff,reduceEq,reduceAdd,reduceCtorEq,g0,g1,pz]
   rw [wordsV_ok ho] at wp
   have wl := wordsI_len ho
   have hr12 := hw.len
   have eq := fun H => equal_v (a := wordsI (decI w0 w1 w2 w3 r)) (b := w0 :: w1 :: w2 :: w3 :: r) (r1 := []) (r2 := rest) (H := H) (lendK_sl H 4 1 _ _ .ro) (lendK_sl H 4 1 _ _ u1) (by omega) (by simp [hr12]) (fun _ => rfl) (fun _ => rfl) rfl hw.hf rfl f1
   have l16 : (w0 :: w1 :: w2 :: w3 :: r).length = 16 := by simp [hr12]
   rw [wl,l16,wlit_eq,List.append_nil] at eq
   unfold wlit at eq
   by_cases he : wordsI (decI w0 w1 w2 w3 r) = w0 :: w1 :: w2 :: w3 :: r
   case neg =>
     have hg : ¬ goodI w0 w1 w2 w3 r := fun h => he h.2
     rw [if_neg hg] at ro
     rw [ro]
     rw [decide_eq_false he] at eq
     simp (disch := omega) only [wk,tupled,↓reduceIte,reduceEqDiff,reduceEq,reduceAdd,reduceCtorEq,i16,i0,mt,h0,fa,fb,v1,v2,kp,List.getElem?_nil,fd,cellEq_ii,tn,runE_none tl,p2,p3,wp,eq,mf]
     rw [ends_left_pan (caught_pan 1 _ _ _ _ _ _ _ (clear66 0 _ _ q0 rfl) (by rw [List.getElem?_set_ne (by decide)]; exact q1)),ec]
     simp (disch := omega) only [wk,tupled,↓reduceIte,reduceEqDiff,reduceEq,reduceAdd,reduceCtorEq,g0,g1,pz]
   have hg : goodI w0 w1 w2 w3 r := ⟨ho,he⟩
   rw [if_pos hg] at ro
   rw [ro]
   rw [decide_eq_true he] at eq
   simp (disch := omega) only [wk,tupled,↓reduceIte,reduceEqDiff,reduceEq,reduceAdd,reduceCtorEq,i16,i0,mt,h0,fa,fb,v1,v2,kp,List.getElem?_nil,fd,cellEq_ii,tn,runE_none tl,p2,p3,wp,eq,mo1,mo2,q0,q1,g2,List.append_nil]
   rw [ends_left_ret (caught_ret _ _ _ _)]
   simp (disch := omega) only [wk,tupled,↓reduceIte,reduceEqDiff,reduceEq,reduceAdd,reduceCtorEq,g0,g1,pd]
 . rw [if_neg hg] at ro
   rw [ro]
   obtain ⟨H2,p2,p4,p5⟩ := ht 2 Hd (by rw [hHd]; rfl)
   have q0 : H2[0]? = some (.cells [.int .i64 0,.int .i64 0,.int .i64 0,.sl 0 0 [] .z,.int .i64 0,.int .i64 0,.str ⟨#[]⟩]) := by rw [p5 0 (by decide) (by rw [hHd]; simp),hHd]; rfl
   have q1 : H2[1]? = some (.cells [.int .i64 0]) := by rw [p5 1 (by decide) (by rw [hHd]; simp),hHd]; rfl
   rw [hHd] at p2
   unfold wlit inoC nilm' at p2
   unfold wlit
   simp (disch := omega) only [wk,tupled,↓reduceIte,reduceEqDiff,reduceEq,reduceAdd,reduceCtorEq,i16,i0,mt,h0,fa,fb,v1,v2,kp,List.getElem?_nil,fd,cellEq_ii,tn,runE_none tl,p2]
   rw [ends_left_pan (caught_pan 1 _ _ _ _ _ _ _ (clear66 0 _ _ q0 rfl) (by rw [List.getElem?_set_ne (by decide)]; exact q1)),ec]
   have s0 : 0 < H2.length := (List.getElem?_eq_some_iff.1 q0).1
   have s1 : 1 < H2.length := (List.getElem?_eq_some_iff.1 q1).1
   have g0 : ∀ A B,((H2.set 0 A).set 1 B)[0]? = some A := fun A B => by rw [List.getElem?_set_ne (by decide),List.getElem?_set_self s0]
   have g1 : ∀ A B,((H2.set 0 A).set 1 B)[1]? = some B := fun A B => List.getElem?_set_self (by rw [List.length_set]; exact s1)
   simp (disch := omega) only [wk,tupled,↓reduceIte,reduceEqDiff,reduceEq,reduceAdd,reduceCtorEq,g0,g1,pz]
theorem putF_two {n : Ino} (h : okI n) {x : Int} {l : List Int} (ht : tailI n = x :: l) : putF ((n.kind + 256 * n.links) :: x :: List.replicate 14 0) 2 l = wordsI n := by
 have h1 := put_words h
 rw [ht] at h1
 have : putF ((n.kind + 256 * n.links) :: List.replicate 15 0) 1 (x :: l) = putF ((n.kind + 256 * n.links) :: x :: List.replicate 14 0) 2 l := rfl
 rw [<- this]; exact h1
theorem rwords14_px (n : Ino) (m : AV) (hm : MapR m n.map) (hn : n.map.length <= 1000) (hs : n.target.size <= 1000) (H : Heap) : pcx (cbL tab) 64 [inoA n m] H = some (.plain (wordsV n)) := by
 refine pcx_N rfl (pc_wp (fi := c64) rfl ?_ (by simp [c64]) (by decide) ?_)
 . simp only [pcOn,List.map_cons,List.map_nil,hfL,hf_lend_sl,hf_lend_int,hf_lend_bool,hf_lend_str,hfL_append,Bool.and_self,Bool.and_true,Bool.true_and,c64,lend_inoA hm,hf_inoA hm]
 unfold c64
 rw [List.map_cons,List.map_nil,lend_inoA hm,z10]
 have m1 := hm.one.1
 have m2 := hm.one.2
 have ck := fun H => rcheck_px n m hm hn hs H
 have hin : inoA n m = .agg (inoC n m) := rfl
 by_cases h : okI n
 case neg =>
   rw [checkI_no h] at ck
   rw [wordsV_no h]
   simp only [inoA] at ck ⊢
   simp (disch := omega) only [wk,tupled,↓reduceIte,reduceEqDiff,reduceEq,reduceAdd,reduceCtorEq,m1,m2,ck,purify,unownT,lend,unown,AV.hf,unown,hfL,Tk.hf]
 rw [checkI_ok h] at ck
 rw [wordsV_ok h]
 have hkk := okI_kind h
 have hlk := h.1
 have hlk2 := h.2.1
 have v1 : IntKind.u64.wrap n.kind = n.kind := wrap_u64 (by omega) (by omega)
 have v2 : IntKind.u64.wrap n.links = n.links := wrap_u64 (by omega) (by omega)
 have z16 : repL 16 [AV.int .u64 0] = encs u64A (List.replicate 16 0) := rfl
 have s16 : List.drop 1 (encs u64A (List.replicate 16 0)) = encs u64A (List.replicate 15 0) := rfl
 have l16 : (encs u64A (List.replicate 16 0)).length = 16 := rfl
 have l15 : (encs u64A (List.replicate 15 0)).length = 15 := rfl
 have i16 : (0 : Int) < ((16 : Nat) : Int) := by decide
 have mn : madeN 1 8 [AV.int .u64 0] (.int .i64 16) (.int .i64 16) = some 16 := rfl
 have i0 : (0 : Int).toNat = 0 := rfl
 have i1 : (1 : Int).toNat = 1 := rfl
 have i2 : (2 : Int).toNat = 2 := rfl
 have i3 : (3 : Int).toNat = 3 := rfl
 have t1 : ∀ A,List.drop 1 (A :: encs u64A (List.replicate 15 0)) = encs u64A (List.replicate 15 0) := fun _ => rfl
 have k116 : (1 : Int) < ((16 : Nat) : Int) := by decide
 have k216 : (2 : Int) < ((16 : Nat) : Int) := by decide
 have k316 : (3 : Int) < ((16 : Nat) : Int) := by decide
 have w16 := wordsI_len h
 have pf : ∀ Hp : Heap,Hp[1]? = some (.cells (encs u64A (wordsI n))) -> purify (some (.ret (.tup [.msl 1 1 0 16,.int .i64 0]),Hp)) = some (.plain (.tup [.sl 1 16 (encs u64A (wordsI n)) .ro,.int .i64 0])) := by
   intro Hp hp
   have c : 0 + 16 * 1 <= (encs u64A (wordsI n)).length /\ hfL (encs u64A (wordsI n)) = true /\ (AV.int .i64 0).hf = true := ⟨by rw [lenU,w16]; decide,hf_u64A _,rfl⟩
   have t : List.take (16 * 1) (List.drop 0 (encs u64A (wordsI n))) = encs u64A (wordsI n) := by rw [List.drop_zero,List.take_of_length_le (by rw [lenU,w16]; decide)]
   simp only [purify,hp,if_pos c,t]
 have c10 : ¬ (1 : Int) = 0 := by decide
 have c21 : ¬ (2 : Int) = 1 := by decide
 have c31 : ¬ (3 : Int) = 1 := by decide
 have c32 : ¬ (3 : Int) = 2 := by decide
 have c01 : ¬ (0 : Int) = 1 := by decide
 have c02 : ¬ (0 : Int) = 2 := by decide
 have c03 : ¬ (0 : Int) = 3 := by decide
 simp only [inoA] at ck ⊢
 obtain ⟨_,_,hb | hb | hb | hb⟩ := id h
 . have e : encs u64A (wordsI n) = .int .u64 (0 + 256 * n.links) :: encs u64A (List.replicate 15 0) := by
     have : wordsI n = (n.kind + 256 * n.links) :: List.replicate 15 0 := by simp [wordsI,tailI,hb.1]
     rw [this,hb.1]; rfl
   have k := hb.1
   rw [k] at v1
   have pf0 := pf [.cells [.int .i64 0,.int .i64 n.links,.int .i64 n.size,m,.int .i64 n.root,.int .i64 n.parent,.str n.target],.cells (encs u64A (wordsI n))] rfl
   rw [e] at pf0 ⊢
   rw [k] at ck
   simp (disch := omega) only [wk,tupled,↓reduceIte,reduceEqDiff,reduceEq,reduceAdd,reduceCtorEq,m1,m2,ck,k,mn,z16,s16,l16,i16,i0,v1,v2,c01,c02,c03,pf0]
 . have k := hb.1
   have hs0 := hb.2.2.2.2.1
   have hs1 := hb.2.2.2.2.2.1
   have v3 : IntKind.u64.wrap n.size = n.size := wrap_u64 (by omega) (by omega)
   obtain ⟨hl10,hright⟩ := isSome_right (mapOk_some hb.2.2.2.2.2.2)
   obtain ⟨s,rest,tk,hme,hz,hr,htk⟩ := id hm
   have rw' : ∀ H,pcx (cbL tab) 80 [m] H = some (.plain (arrV (wordsE n.map))) := fun H => by rw [hme]; exact rwords_px n.map s rest tk hz hr hl10 hright H
   simp only [arrV] at rw'
   clear hme
   have wl := wordsE_len hl10
   have lw := lenU (wordsE n.map)
   have n10 : (wordsE []).length = 10 := rfl
   have lz := lenU (wordsE [])
   have dz := dr10 (wordsE []) rfl
   have ow := one_u64A (wordsE n.map)
   have tI : tailI n = n.size :: wordsE n.map := by simp [tailI,k]
   have p2 := putF_two h tI
   have d2 : List.drop 2 (AV.int .u64 (1 + 256 * n.links) :: encs u64A (List.replicate 15 0)) = encs u64A (List.replicate 14 0) := rfl
   have d3 : List.drop 1 (encs u64A (List.replicate 15 0)) = encs u64A (List.replicate 14 0) := rfl
   rw [k] at v1 ck p2
   simp (disch := omega) only [wk,tupled,↓reduceIte,reduceEqDiff,reduceEq,reduceAdd,reduceCtorEq,m1,m2,ck,k,mn,z16,s16,l16,l15,i16,k116,i0,i1,v1,v2,v3,c10,d2,d3,rw',lw,wl,n10,lz,dz,ow,flat_arr,List.append_nil]
   refine loop_ind (fun (x : List Int × List Int × List Int) E df H => wordsE n.map = x.1 ++ x.2.1 /\ putF x.2.2 (2 + x.1.length) x.2.1 = wordsI n /\ x.2.2.length = 16 /\ E 2 = .sl 0 0 [] .z /\ E 4 = .msl 1 1 0 16 /\ E 5 = .ptr 2 0 /\ E 6 = .int .i64 (x.1.length : Nat) /\ df = [] ∧
       H = [.cells [.int .i64 1,.int .i64 n.links,.int .i64 n.size,m,.int .i64 n.root,.int .i64 n.parent,.str n.target],.cells (encs u64A x.2.2),.cells (encs u64A (wordsE n.map))])
     (fun x => x.2.1.length) ([],wordsE n.map,(1 + 256 * n.links) :: n.size :: List.replicate 14 0) (by decide) (.inl rfl) ⟨rfl,p2,rfl,rfl,rfl,rfl,rfl,rfl,rfl⟩ ?_
   intro ⟨pre,suf,W⟩ E df H ih hP
   obtain ⟨a1,a2,a3,E2,E4,E5,E6,hdf,hH⟩ := hP
   dsimp only at a1 a2 a3 E6 hH
   subst hdf hH
   have hll : (wordsE n.map).length = pre.length + suf.length := by rw [a1,List.length_append]
   cases suf with
   | nil =>
     simp only [List.length_nil,Nat.add_zero] at hll
     have n1 : ¬ (pre.length : Int) < 10 := by omega
     have e : W = wordsI n := a2
     have pf0 := pf [.cells [.int .i64 1,.int .i64 n.links,.int .i64 n.size,m,.int .i64 n.root,.int .i64 n.parent,.str n.target],.cells (encs u64A (wordsI n)),.cells (encs u64A (wordsE n.map))] rfl
     rw [e]
     clear hll
     simp (disch := omega) only [wk,tupled,↓reduceIte,reduceEqDiff,reduceEq,reduceAdd,reduceCtorEq,E2,E4,E5,E6,n1,pf0]
   | cons v r =>
     simp only [List.length_cons] at hll
     have n1 : (pre.length : Int) < 10 := by omega
     have g := getU1 pre v r
     rw [<- a1] at g
     have su := setU W (2 + pre.length) v (by omega)
     have lW := lenU W
     have e1 : (2 : Int) + (pre.length : Int) = ((2 + pre.length : Nat) : Int) := by omega
     have n2 : ((2 + pre.length : Nat) : Int) < ((16 : Nat) : Int) := by omega
     simp (disch := omega) only [wk,tupled,↓reduceIte,reduceEqDiff,reduceEq,reduceAdd,reduceCtorEq,E2,E4,E5,E6,n1,n2,g,e1,su,lW,a3,Nat.zero_add]
     refine ih (pre ++ [v],r,W.set (2 + pre.length) v) _ _ _ (by simp) ?_
     refine ⟨by simp [a1], ?_,by rw [List.length_set]; exact a3,by simp only [en,↓reduceIte,reduceEqDiff,E2],by simp only [en,↓reduceIte,reduceEqDiff,E4],by simp only [en,↓reduceIte,reduceEqDiff,E5],by simp only [en,↓reduceIte,reduceEqDiff],rfl,rfl⟩
     rw [<- a2,putF]
     dsimp only
     rw [List.length_append]; rfl
 . have k := hb.1
   obtain ⟨_,_,_,_,b1,b2,b3,b4⟩ := hb
   have v3 : IntKind.u64.wrap n.root = n.root := wrap_u64 (by omega) (by omega)
   have v4 : IntKind.u64.wrap n.parent = n.parent := wrap_u64 (by omega) (by omega)
   have e : encs u64A (wordsI n) = .int .u64 (2 + 256 * n.links) :: .int .u64 0 :: .int .u64 n.root :: .int .u64 n.parent :: encs u64A (List.replicate 12 0) := by
     have : wordsI n = (n.kind + 256 * n.links) :: 0 :: n.root :: n.parent :: List.replicate 12 0 := by simp [wordsI,tailI,k]
     rw [this,k]; rfl
   have s16' : encs u64A (List.replicate 16 0) = .int .u64 0 :: .int .u64 0 :: .int .u64 0 :: .int .u64 0 :: encs u64A (List.replicate 12 0) := rfl
   have l12 : (encs u64A (List.replicate 12 0)).length = 12 := rfl
   have pf0 := pf [.cells [.int .i64 2,.int .i64 n.links,.int .i64 n.size,m,.int .i64 n.root,.int .i64 n.parent,.str n.target],.cells (encs u64A (wordsI n))] rfl
   rw [e] at pf0 ⊢
   rw [k] at v1 ck
   rw [s16'] at z16
   simp (disch := omega) only [wk,tupled,↓reduceIte,reduceEqDiff,reduceEq,reduceAdd,reduceCtorEq,m1,m2,ck,k,mn,z16,l12,i16,k216,k316,i0,i2,i3,v1,v2,v3,v4,c21,fv1,pf0]
 . have k := hb.1
   obtain ⟨_,_,_,_,_,b1,b2,b3⟩ := hb
   have hsd := size_data n.target
   have hne0 : n.target.data.toList ≠ [] := fun h => by rw [h] at hsd; simp at hsd; omega
   have v3 : IntKind.u64.wrap (n.target.size : Int) = (n.target.size : Int) := wrap_u64 (by omega) (by omega)
   have lp := fun H => rlay_px n.target.data.toList 1 .ro H (by omega) rfl
   rw [prRow_ne (layM_ne_nil hne0)] at lp
   rw [hsd,<- bytesA_encs] at lp
   have ll := layM_len n.target.data.toList
   rw [hsd] at ll
   have tI : tailI n = (n.target.size : Int) :: layM n.target.data.toList := by simp [tailI,k]
   have p2 := putF_two h tI
   have s1 : (n.target.size : Nat) <= 70368744177664 := by omega
   have d3 : List.drop 1 (encs u64A (List.replicate 15 0)) = encs u64A (List.replicate 14 0) := rfl
   rw [k] at v1 ck p2
   simp (disch := omega) only [wk,tupled,↓reduceIte,reduceEqDiff,reduceEq,reduceAdd,reduceCtorEq,m1,m2,ck,k,mn,z16,s16,l16,l15,i16,k116,i0,i1,v1,v2,v3,c31,c32,d3,s1,lp]
   refine loop_ind (fun (x : List Int × List Int × List Int) E df H => layM n.target.data.toList = x.1 ++ x.2.1 /\ putF x.2.2 (2 + x.1.length) x.2.1 = wordsI n /\ x.2.2.length = 16 /\ E 4 = .msl 1 1 0 16 /\ (∃ tk,E 7 = .sl 1 (layM n.target.data.toList).length (encs u64A (layM n.target.data.toList)) tk) /\ E 8 = .int .i64 (x.1.length : Nat) /\ df = [] ∧
       H = [.cells [.int .i64 3,.int .i64 n.links,.int .i64 n.size,m,.int .i64 n.root,.int .i64 n.parent,.str n.target],.cells (encs u64A x.2.2),.tok 1])
     (fun x => x.2.1.length) ([],layM n.target.data.toList,(3 + 256 * n.links) :: (n.target.size : Int) :: List.replicate 14 0) (by decide) (.inl rfl) ⟨rfl,p2,rfl,rfl,⟨_,rfl⟩,rfl,rfl,rfl⟩ ?_
   intro ⟨pre,suf,W⟩ E df H ih hP
   obtain ⟨a1,a2,a3,E4,⟨tk,E7⟩,E8,hdf,hH⟩ := hP
   dsimp only at a1 a2 a3 E8 hH
   subst hdf hH
   have hll : (layM n.target.data.toList).length = pre.length + suf.length := by rw [a1,List.length_append]
   cases suf with
   | nil =>
     simp only [List.length_nil,Nat.add_zero] at hll
     have e : W = wordsI n := a2
     have pf0 := pf [.cells [.int .i64 3,.int .i64 n.links,.int .i64 n.size,m,.int .i64 n.root,.int .i64 n.parent,.str n.target],.cells (encs u64A (wordsI n)),.tok 1] rfl
     rw [e]
     simp (disch := omega) only [wk,tupled,↓reduceIte,reduceEqDiff,reduceEq,reduceAdd,reduceCtorEq,E4,E7,E8,hll,pf0]
   | cons v r =>
     simp only [List.length_cons] at hll
     have n1 : (pre.length : Int) < ((layM n.target.data.toList).length : Int) := by omega
     have d := wdrop pre v r []
     rw [<- a1,List.append_nil] at d
     have su := setU W (2 + pre.length) v (by omega)
     have lW := lenU W
     have e1 : (2 : Int) + (pre.length : Int) = ((2 + pre.length : Nat) : Int) := by omega
     have n2 : ((2 + pre.length : Nat) : Int) < ((16 : Nat) : Int) := by omega
     simp (disch := omega) only [wk,tupled,↓reduceIte,reduceEqDiff,reduceEq,reduceAdd,reduceCtorEq,E4,E7,E8,n1,n2,d,e1,su,lW,a3,Nat.zero_add]
     refine ih (pre ++ [v],r,W.set (2 + pre.length) v) _ _ _ (by simp) ?_
     refine ⟨by simp [a1], ?_,by rw [List.length_set]; exact a3,by simp only [en,↓reduceIte,reduceEqDiff,E4],⟨tk,by simp only [en,↓reduceIte,reduceEqDiff,E7]⟩,by simp only [en,↓reduceIte,reduceEqDiff],rfl,rfl⟩
     rw [<- a2,putF]
     dsimp only
     rw [List.length_append]; rfl
theorem wordE_small {x : Ext} (h : rightM x) : wordE x <= 4611686018427387904 := by
 obtain ⟨x1,x2,x3,x4,x5,x6,x7⟩ := h
 unfold wordE
 omega
theorem wordsE_small {l : List Ext} (h : ∀ x ∈ l,rightM x) : ∀ w ∈ wordsE l,w <= 4611686018427387904 := by
 intro w hw
 rcases List.mem_append.1 hw with hw | hw
 . obtain ⟨x,hx,rfl⟩ := List.mem_map.1 hw
   exact wordE_small (h x hx)
 . have := (List.mem_replicate.1 hw).2; omega
theorem good_bounds {w0 w1 w2 w3 : Int} {r : List Int} (h : goodI w0 w1 w2 w3 r) : w0 < 4294967296 /\ w1 <= 65536 /\ (w0 % 256 ≠ 3 -> w2 <= 4611686018427387904 /\ w3 <= 4611686018427387904) := by
 obtain ⟨h1,h2⟩ := h
 have hk := okI_kind h1
 have l0 := h1.1
 have l1 := h1.2.1
 have hkind : (decI w0 w1 w2 w3 r).kind = w0 % 256 := rfl
 generalize decI w0 w1 w2 w3 r = n at h1 h2 hk l0 l1 hkind
 unfold wordsI at h2
 obtain ⟨_,_,hb | hb | hb | hb⟩ := h1
 . have ht : tailI n = [] := by simp [tailI,hb.1]
   rw [ht] at h2
   simp only [List.nil_append,List.length_nil,Nat.sub_zero,List.replicate_succ,List.cons.injEq] at h2
   obtain ⟨a,b,c,d,_⟩ := h2
   exact ⟨by omega,by omega,fun _ => ⟨by omega,by omega⟩⟩
 . have ht : tailI n = n.size :: wordsE n.map := by simp [tailI,hb.1]
   obtain ⟨hl,hr⟩ := isSome_right (mapOk_some hb.2.2.2.2.2.2)
   have hl2 := wordsE_len hl
   have sm := wordsE_small hr
   rw [ht] at h2
   generalize wordsE n.map = E at h2 hl2 sm
   match E,hl2 with
   | a :: b :: E,_ =>
     simp only [List.cons_append,List.cons.injEq] at h2
     obtain ⟨q0,q1,q2,q3,_⟩ := h2
     have s2 := sm a (by simp)
     have s3 := sm b (by simp)
     have := hb.2.2.2.2.2.1
     exact ⟨by omega,by omega,fun _ => ⟨by omega,by omega⟩⟩
 . have ht : tailI n = [0,n.root,n.parent] := by simp [tailI,hb.1]
   rw [ht] at h2
   simp only [List.cons_append,List.cons.injEq] at h2
   obtain ⟨q0,q1,q2,q3,_⟩ := h2
   obtain ⟨_,_,_,_,b1,b2,b3,b4⟩ := hb
   exact ⟨by omega,by omega,fun _ => ⟨by omega,by omega⟩⟩
 . have ht : tailI n = (n.target.size : Int) :: layM n.target.data.toList := by simp [tailI,hb.1]
   rw [ht] at h2
   simp only [List.cons_append,List.cons.injEq] at h2
   obtain ⟨q0,q1,_⟩ := h2
   have := hb.2.2.2.2.2.2.1
   exact ⟨by omega,by omega,fun h => absurd (by omega) h⟩
theorem rofI_px (w0 w1 w2 w3 : Int) (r : List Int) (rest : List AV) (tk : Tk) (H : Heap) (hw : WOk w0 w1 w2 w3 r rest) :
   pcx (cbL tab) 42 [.sl 1 16 (wlit w0 w1 w2 w3 r rest) tk] H = some (.plain (ofIV (ofI w0 w1 w2 w3 r).1 (ofI w0 w1 w2 w3 r).2)) := by
 obtain ⟨u1,e1,f1⟩ := lend_sl 1 16 (wlit w0 w1 w2 w3 r rest) tk
 refine pcx_N rfl (pc_wp (fi := c42) rfl ?_ (by simp [c42]) (by decide) ?_)
 . rw [<- wlit_eq]; simp only [pcOn,List.map_cons,List.map_nil,hfL,hf_lend_sl,hf_lend_int,hf_lend_bool,hf_lend_str,hfL_append,Bool.and_self,Bool.and_true,Bool.true_and,c42,hf_u64A,hw.hf]
 unfold c42
 rw [List.map_cons,List.map_nil,e1,z10]
 have pz := fun e H => purify_ofI zeroI e H
 have ez : inoA zeroI (mapV zeroI.map) = .agg [.int .i64 0,.int .i64 0,.int .i64 0,.sl 0 0 [] .z,.int .i64 0,.int .i64 0,.str ⟨#[]⟩] := rfl
 have i16 : ((16 : Nat) : Int) = 16 := rfl
 have i0 : (0 : Int).toNat = 0 := rfl
 have i1 : (1 : Int).toNat = 1 := rfl
 have i2 : (2 : Int).toNat = 2 := rfl
 have i3 : (3 : Int).toNat = 3 := rfl
 have ro : ofI w0 w1 w2 w3 r = if w0 = 0 then (zeroI,0) else if goodI w0 w1 w2 w3 r then (decI w0 w1 w2 w3 r,0) else (zeroI,240) := rfl
 rw [ez] at pz
 obtain ⟨hl12,⟨a0,a1⟩,⟨b0,b1⟩,⟨c0,c1⟩,⟨d0,d1⟩,hur,hrf⟩ := id hw
 by_cases h0 : w0 = 0
 . rw [if_pos h0] at ro
   rw [ro]
   subst h0
   unfold wlit
   simp (disch := omega) only [wk,tupled,↓reduceIte,reduceEqDiff,reduceEq,reduceAdd,reduceCtorEq,i16,i0,pz]
 rw [if_neg h0] at ro
 have v1 : IntKind.i64.wrap (w0 % 256) = w0 % 256 := wrap_i64 (by omega) (by omega)
 by_cases g0 : w0 < 4294967296
 case neg =>
   have hg : ¬ goodI w0 w1 w2 w3 r := fun h => g0 (good_bounds h).1
   rw [if_neg hg] at ro
   rw [ro]
   have g0' : 4294967296 <= w0 := by omega
   clear hw hg
   unfold wlit
   by_cases k3 : w0 % 256 = 3 <;> simp (disch := omega) only [wk,tupled,↓reduceIte,reduceEqDiff,reduceEq,reduceAdd,reduceCtorEq,i16,i0,i1,i2,i3,h0,v1,g0',k3,pz]
 have g0' : ¬ 4294967296 <= w0 := by omega
 by_cases g1 : w1 <= 65536
 case neg =>
   have hg : ¬ goodI w0 w1 w2 w3 r := fun h => g1 (good_bounds h).2.1
   rw [if_neg hg] at ro
   rw [ro]
   have g1' : 65536 < w1 := by omega
   clear hw hg
   unfold wlit
   by_cases k3 : w0 % 256 = 3 <;> simp (disch := omega) only [wk,tupled,↓reduceIte,reduceEqDiff,reduceEq,reduceAdd,reduceCtorEq,i16,i0,i1,i2,i3,h0,v1,g0',g1',k3,pz]
 have g1' : ¬ 65536 < w1 := by omega
 have hlk : w0 / 256 % 16777216 = w0 / 256 := by omega
 have v2 : IntKind.i64.wrap (w0 / 256) = w0 / 256 := wrap_i64 (by omega) (by omega)
 have wp := fun H => rwords14_px (decI w0 w1 w2 w3 r) (mapV (decI w0 w1 w2 w3 r).map) (MapR.of _) (by
   simp only [decI]
   split
   . have := readE_len (w10 w2 w3 r)
     have := hw.w10.1
     omega
   . simp) (by
   simp only [decI]
   split
   . simp only [textI,ByteArray.size,List.size_toArray,List.length_take,bytM_len,List.length_cons,hl12]
     omega
   . decide) H
 have pd := fun H => purify_ofI (decI w0 w1 w2 w3 r) 0 H
 have l16 : (w0 :: w1 :: w2 :: w3 :: r).length = 16 := by simp [hl12]
 have smok : okI (decI w0 w1 w2 w3 r) -> ∀ H,pcx (cbL tab) 13 [.sl 1 16 (encs u64A (wordsI (decI w0 w1 w2 w3 r))) .ro,.sl 1 16 (.int .u64 w0 :: .int .u64 w1 :: .int .u64 w2 :: .int .u64 w3 :: (encs u64A r ++ rest)) u1] H = some (.plain (.bool (decide (wordsI (decI w0 w1 w2 w3 r) = w0 :: w1 :: w2 :: w3 :: r)))) := by
   intro ho H
   have h := same_px (wordsI (decI w0 w1 w2 w3 r)) (w0 :: w1 :: w2 :: w3 :: r) [] rest 1 1 .ro u1 H (by rw [wordsI_len ho]; decide) (by rw [l16]; decide) (fun _ => rfl) (fun _ => rfl) rfl hrf
   rw [wordsI_len ho,l16,List.append_nil] at h
   exact h
 simp only [inoA] at wp pd
 by_cases k3 : w0 % 256 = 3
 . have ed : decI w0 w1 w2 w3 r = ⟨3,w0 / 256,0,[],0,0,textI w1 w2 w3 r⟩ := by simp [decI,k3,hlk]
   have bv := fun H => rbytes_px (w2 :: w3 :: r) rest 1 .ro H (by simp [hl12]) rfl hrf (fun x hx => by
     rcases List.mem_cons.1 hx with rfl | hx
     . exact ⟨c0,c1⟩
     rcases List.mem_cons.1 hx with rfl | hx
     . exact ⟨d0,d1⟩
     exact hur x hx)
   have l14 : (w2 :: w3 :: r).length = 14 := by simp [hl12]
   have eb : encs u64A (w2 :: w3 :: r) ++ rest = .int .u64 w2 :: .int .u64 w3 :: (encs u64A r ++ rest) := rfl
   rw [l14,eb] at bv
   have lB : (bytM (w2 :: w3 :: r)).length = 112 := by rw [bytM_len,l14]
   have lC : (encs byA (bytM (w2 :: w3 :: r))).length = 112 := by rw [encs_length (k := 1),lB]
   have nB : bytM (w2 :: w3 :: r) ≠ [] := by intro e; rw [e] at lB; cases lB
   have pB : prRow 1 byA (bytM (w2 :: w3 :: r)) = .fresh 1 112 (encs byA (bytM (w2 :: w3 :: r))) := by rw [prRow_ne nB,lB]
   rw [pB] at bv
   have i14 : 16 - 2 = 14 := rfl
   have lr : (encs u64A r).length = 12 := by rw [lenU,hl12]
   have c30 : ¬ (3 : Int) = 1 := by decide
   have c32 : ¬ (3 : Int) = 2 := by decide
   have eT : ByteArray.mk (List.toArray ((bytM (w2 :: w3 :: r)).take w1.toNat)) = textI w1 w2 w3 r := rfl
   have hnil : mapV [] = .sl 0 0 [] .z := rfl
   by_cases m1 : 112 < w1
   . have hg : ¬ goodI w0 w1 w2 w3 r := by
       intro h
       obtain ⟨q1,q2⟩ := h
       rw [ed] at q1 q2
       obtain ⟨_,_,s1,s2,_⟩ := (okI_3 rfl).1 q1
       have ht : tailI ⟨3,w0 / 256,0,[],0,0,textI w1 w2 w3 r⟩ = ((textI w1 w2 w3 r).size : Int) :: layM (textI w1 w2 w3 r).data.toList := rfl
       unfold wordsI at q2
       rw [ht] at q2
       simp only [List.cons_append,List.cons.injEq] at q2
       have := q2.2.1
       simp only at s1 s2
       omega
     rw [if_neg hg] at ro
     rw [ro]
     clear hg hw
     unfold wlit
     by_cases g2 : 4611686018427387904 < w2
     . simp (disch := omega) only [wk,tupled,↓reduceIte,reduceEqDiff,reduceEq,reduceAdd,reduceCtorEq,i16,i0,i1,i2,i3,h0,v1,g0',g1',v2,k3,c30,c32,i14,lr,bv,m1,g2,pz]
     by_cases g3 : 4611686018427387904 < w3 <;> simp (disch := omega) only [wk,tupled,↓reduceIte,reduceEqDiff,reduceEq,reduceAdd,reduceCtorEq,i16,i0,i1,i2,i3,h0,v1,g0',g1',v2,k3,c30,c32,i14,lr,bv,m1,g2,g3,pz]
   have mle : w1.toNat <= 112 := by omega
   have hsl : ∀ g,(if w1.toNat = 112 then AV.sl 1 112 (encs byA (bytM (w2 :: w3 :: r))) (.own g) else .sl 1 w1.toNat (encs byA (bytM (w2 :: w3 :: r))) .ro) = .sl 1 w1.toNat (encs byA (bytM (w2 :: w3 :: r))) (if w1.toNat = 112 then .own g else .ro) := by
     intro g
     split
     . rename_i h; rw [h]
     . rfl
   unfold wlit
   by_cases g2 : 4611686018427387904 < w2
   . skip
     by_cases ho : okI (decI w0 w1 w2 w3 r)
     case neg =>
       have hg : ¬ goodI w0 w1 w2 w3 r := fun h => ho h.1
       rw [if_neg hg] at ro
       rw [ro]
       rw [wordsV_no ho,ed] at wp
       simp only [hnil] at wp
       clear hg ho hw
       simp (disch := omega) only [wk,tupled,↓reduceIte,reduceEqDiff,reduceEq,reduceAdd,reduceCtorEq,i16,i0,i1,i2,i3,h0,v1,g0',g1',v2,k3,c30,c32,i14,lr,bv,m1,b0,mle,lC,hsl,unb,eT,hnil,true_or,Nat.le_add_left,Nat.le_add_right,g2,wp,pz]
     have sm := smok ho
     rw [wordsV_ok ho] at wp
     by_cases he : wordsI (decI w0 w1 w2 w3 r) = w0 :: w1 :: w2 :: w3 :: r
     case neg =>
       have hg : ¬ goodI w0 w1 w2 w3 r := fun h => he h.2
       rw [if_neg hg] at ro
       rw [ro]
       rw [decide_eq_false he] at sm
       rw [ed] at wp sm
       simp only [hnil] at wp
       clear hg ho hw he
       simp (disch := omega) only [wk,tupled,↓reduceIte,reduceEqDiff,reduceEq,reduceAdd,reduceCtorEq,i16,i0,i1,i2,i3,h0,v1,g0',g1',v2,k3,c30,c32,i14,lr,bv,m1,b0,mle,lC,hsl,unb,eT,hnil,true_or,Nat.le_add_left,Nat.le_add_right,g2,wp,sm,pz]
     have hg : goodI w0 w1 w2 w3 r := ⟨ho,he⟩
     rw [if_pos hg] at ro
     rw [ro]
     rw [decide_eq_true he] at sm
     rw [ed] at wp sm pd ⊢
     simp only [hnil] at wp pd
     clear hg ho hw he
     simp (disch := omega) only [wk,tupled,↓reduceIte,reduceEqDiff,reduceEq,reduceAdd,reduceCtorEq,i16,i0,i1,i2,i3,h0,v1,g0',g1',v2,k3,c30,c32,i14,lr,bv,m1,b0,mle,lC,hsl,unb,eT,hnil,true_or,Nat.le_add_left,Nat.le_add_right,g2,wp,sm,pd]
   by_cases g3 : 4611686018427387904 < w3
   . skip
     by_cases ho : okI (decI w0 w1 w2 w3 r)
     case neg =>
       have hg : ¬ goodI w0 w1 w2 w3 r := fun h => ho h.1
       rw [if_neg hg] at ro
       rw [ro]
       rw [wordsV_no ho,ed] at wp
       simp only [hnil] at wp
       clear hg ho hw
       simp (disch := omega) only [wk,tupled,↓reduceIte,reduceEqDiff,reduceEq,reduceAdd,reduceCtorEq,i16,i0,i1,i2,i3,h0,v1,g0',g1',v2,k3,c30,c32,i14,lr,bv,m1,b0,mle,lC,hsl,unb,eT,hnil,true_or,Nat.le_add_left,Nat.le_add_right,g2,g3,wp,pz]
     have sm := smok ho
     rw [wordsV_ok ho] at wp
     by_cases he : wordsI (decI w0 w1 w2 w3 r) = w0 :: w1 :: w2 :: w3 :: r
     case neg =>
       have hg : ¬ goodI w0 w1 w2 w3 r := fun h => he h.2
       rw [if_neg hg] at ro
       rw [ro]
       rw [decide_eq_false he] at sm
       rw [ed] at wp sm
       simp only [hnil] at wp
       clear hg ho hw he
       simp (disch := omega) only [wk,tupled,↓reduceIte,reduceEqDiff,reduceEq,reduceAdd,reduceCtorEq,i16,i0,i1,i2,i3,h0,v1,g0',g1',v2,k3,c30,c32,i14,lr,bv,m1,b0,mle,lC,hsl,unb,eT,hnil,true_or,Nat.le_add_left,Nat.le_add_right,g2,g3,wp,sm,pz]
     have hg : goodI w0 w1 w2 w3 r := ⟨ho,he⟩
     rw [if_pos hg] at ro
     rw [ro]
     rw [decide_eq_true he] at sm
     rw [ed] at wp sm pd ⊢
     simp only [hnil] at wp pd
     clear hg ho hw he
     simp (disch := omega) only [wk,tupled,↓reduceIte,reduceEqDiff,reduceEq,reduceAdd,reduceCtorEq,i16,i0,i1,i2,i3,h0,v1,g0',g1',v2,k3,c30,c32,i14,lr,bv,m1,b0,mle,lC,hsl,unb,eT,hnil,true_or,Nat.le_add_left,Nat.le_add_right,g2,g3,wp,sm,pd]
   by_cases ho : okI (decI w0 w1 w2 w3 r)
   case neg =>
     have hg : ¬ goodI w0 w1 w2 w3 r := fun h => ho h.1
     rw [if_neg hg] at ro
     rw [ro]
     rw [wordsV_no ho,ed] at wp
     simp only [hnil] at wp
     clear hg ho hw
     simp (disch := omega) only [wk,tupled,↓reduceIte,reduceEqDiff,reduceEq,reduceAdd,reduceCtorEq,i16,i0,i1,i2,i3,h0,v1,g0',g1',v2,k3,c30,c32,i14,lr,bv,m1,b0,mle,lC,hsl,unb,eT,hnil,true_or,Nat.le_add_left,Nat.le_add_right,g2,g3,wp,pz]
   have sm := smok ho
   rw [wordsV_ok ho] at wp
   by_cases he : wordsI (decI w0 w1 w2 w3 r) = w0 :: w1 :: w2 :: w3 :: r
   case neg =>
     have hg : ¬ goodI w0 w1 w2 w3 r := fun h => he h.2
     rw [if_neg hg] at ro
     rw [ro]
     rw [decide_eq_false he] at sm
     rw [ed] at wp sm
     simp only [hnil] at wp
     clear hg ho hw he
     simp (disch := omega) only [wk,tupled,↓reduceIte,reduceEqDiff,reduceEq,reduceAdd,reduceCtorEq,i16,i0,i1,i2,i3,h0,v1,g0',g1',v2,k3,c30,c32,i14,lr,bv,m1,b0,mle,lC,hsl,unb,eT,hnil,true_or,Nat.le_add_left,Nat.le_add_right,g2,g3,wp,sm,pz]
   have hg : goodI w0 w1 w2 w3 r := ⟨ho,he⟩
   rw [if_pos hg] at ro
   rw [ro]
   rw [decide_eq_true he] at sm
   rw [ed] at wp sm pd ⊢
   simp only [hnil] at wp pd
   clear hg ho hw he
   simp (disch := omega) only [wk,tupled,↓reduceIte,reduceEqDiff,reduceEq,reduceAdd,reduceCtorEq,i16,i0,i1,i2,i3,h0,v1,g0',g1',v2,k3,c30,c32,i14,lr,bv,m1,b0,mle,lC,hsl,unb,eT,hnil,true_or,Nat.le_add_left,Nat.le_add_right,g2,g3,wp,sm,pd]
 by_cases g2 : w2 <= 4611686018427387904
 case neg =>
   have hg : ¬ goodI w0 w1 w2 w3 r := fun h => g2 ((good_bounds h).2.2 k3).1
   rw [if_neg hg] at ro
   rw [ro]
   have g2' : 4611686018427387904 < w2 := by omega
   clear hw hg
   unfold wlit
   simp (disch := omega) only [wk,tupled,↓reduceIte,reduceEqDiff,reduceEq,reduceAdd,reduceCtorEq,i16,i0,i1,i2,i3,h0,v1,g0',g1',v2,k3,g2',pz]
 have g2' : ¬ 4611686018427387904 < w2 := by omega
 by_cases g3 : w3 <= 4611686018427387904
 case neg =>
   have hg : ¬ goodI w0 w1 w2 w3 r := fun h => g3 ((good_bounds h).2.2 k3).2
   rw [if_neg hg] at ro
   rw [ro]
   have g3' : 4611686018427387904 < w3 := by omega
   clear hw hg
   unfold wlit
   simp (disch := omega) only [wk,tupled,↓reduceIte,reduceEqDiff,reduceEq,reduceAdd,reduceCtorEq,i16,i0,i1,i2,i3,h0,v1,g0',g1',v2,k3,g2',g3',pz]
 have g3' : ¬ 4611686018427387904 < w3 := by omega
 have v3 : IntKind.i64.wrap w2 = w2 := wrap_i64 (by omega) (by omega)
 have v4 : IntKind.i64.wrap w3 = w3 := wrap_i64 (by omega) (by omega)
 have v5 : IntKind.i64.wrap w1 = w1 := wrap_i64 (by omega) (by omega)
 have hnil : mapV [] = .sl 0 0 [] .z := rfl
 by_cases k2 : w0 % 256 = 2
 . have ed : decI w0 w1 w2 w3 r = ⟨2,w0 / 256,0,[],w2,w3,⟨#[]⟩⟩ := by simp [decI,k2,hlk]
   have c21 : ¬ (2 : Int) = 1 := by decide
   have c23 : ¬ (2 : Int) = 3 := by decide
   unfold wlit
   by_cases ho : okI (decI w0 w1 w2 w3 r)
   case neg =>
     have hg : ¬ goodI w0 w1 w2 w3 r := fun h => ho h.1
     rw [if_neg hg] at ro
     rw [ro]
     rw [wordsV_no ho,ed] at wp
     simp only [hnil] at wp
     clear hg ho hw
     simp (disch := omega) only [wk,tupled,↓reduceIte,reduceEqDiff,reduceEq,reduceAdd,reduceCtorEq,i16,i0,i1,i2,i3,h0,v1,g0',g1',v2,k2,c21,c23,g2',g3',v3,v4,fve,hnil,wp,pz]
   have sm := smok ho
   rw [wordsV_ok ho] at wp
   by_cases he : wordsI (decI w0 w1 w2 w3 r) = w0 :: w1 :: w2 :: w3 :: r
   case neg =>
     have hg : ¬ goodI w0 w1 w2 w3 r := fun h => he h.2
     rw [if_neg hg] at ro
     rw [ro]
     rw [decide_eq_false he] at sm
     rw [ed] at wp sm
     simp only [hnil] at wp
     clear hg ho hw he
     simp (disch := omega) only [wk,tupled,↓reduceIte,reduceEqDiff,reduceEq,reduceAdd,reduceCtorEq,i16,i0,i1,i2,i3,h0,v1,g0',g1',v2,k2,c21,c23,g2',g3',v3,v4,fve,hnil,wp,sm,pz]
   have hg : goodI w0 w1 w2 w3 r := ⟨ho,he⟩
   rw [if_pos hg] at ro
   rw [ro]
   rw [decide_eq_true he] at sm
   rw [ed] at wp sm pd ⊢
   simp only [hnil] at wp pd
   clear hg ho hw he
   simp (disch := omega) only [wk,tupled,↓reduceIte,reduceEqDiff,reduceEq,reduceAdd,reduceCtorEq,i16,i0,i1,i2,i3,h0,v1,g0',g1',v2,k2,c21,c23,g2',g3',v3,v4,fve,hnil,wp,sm,pd]
 by_cases k1 : w0 % 256 = 1
 case neg =>
   have ed : decI w0 w1 w2 w3 r = ⟨w0 % 256,w0 / 256,0,[],0,0,⟨#[]⟩⟩ := by simp [decI,k1,k2,k3,hlk]
   unfold wlit
   by_cases ho : okI (decI w0 w1 w2 w3 r)
   case neg =>
     have hg : ¬ goodI w0 w1 w2 w3 r := fun h => ho h.1
     rw [if_neg hg] at ro
     rw [ro]
     rw [wordsV_no ho,ed] at wp
     simp only [hnil] at wp
     clear hg ho hw
     simp (disch := omega) only [wk,tupled,↓reduceIte,reduceEqDiff,reduceEq,reduceAdd,reduceCtorEq,i16,i0,i1,i2,i3,h0,v1,g0',g1',v2,k1,k2,k3,g2',g3',hnil,wp,pz]
   have sm := smok ho
   rw [wordsV_ok ho] at wp
   by_cases he : wordsI (decI w0 w1 w2 w3 r) = w0 :: w1 :: w2 :: w3 :: r
   case neg =>
     have hg : ¬ goodI w0 w1 w2 w3 r := fun h => he h.2
     rw [if_neg hg] at ro
     rw [ro]
     rw [decide_eq_false he] at sm
     rw [ed] at wp sm
     simp only [hnil] at wp
     clear hg ho hw he
     simp (disch := omega) only [wk,tupled,↓reduceIte,reduceEqDiff,reduceEq,reduceAdd,reduceCtorEq,i16,i0,i1,i2,i3,h0,v1,g0',g1',v2,k1,k2,k3,g2',g3',hnil,wp,sm,pz]
   have hg : goodI w0 w1 w2 w3 r := ⟨ho,he⟩
   rw [if_pos hg] at ro
   rw [ro]
   rw [decide_eq_true he] at sm
   rw [ed] at wp sm pd ⊢
   simp only [hnil] at wp pd
   clear hg ho hw he
   simp (disch := omega) only [wk,tupled,↓reduceIte,reduceEqDiff,reduceEq,reduceAdd,reduceCtorEq,i16,i0,i1,i2,i3,h0,v1,g0',g1',v2,k1,k2,k3,g2',g3',hnil,wp,sm,pd]
 have ed : decI w0 w1 w2 w3 r = ⟨1,w0 / 256,w1,readE (w10 w2 w3 r),0,0,⟨#[]⟩⟩ := by simp [decI,k1,hlk]
 have c13 : ¬ (1 : Int) = 3 := by decide
 have n10 : (wordsE []).length = 10 := rfl
 have lz := lenU (wordsE [])
 unfold wlit
 simp (disch := omega) only [wk,tupled,↓reduceIte,reduceEqDiff,reduceEq,reduceAdd,reduceCtorEq,i16,i0,i1,i2,i3,h0,v1,g0',g1',v2,k1,c13,g2',g3']
 have w10l := hw.w10.1
 have rd := fun H => rread_px (w10 w2 w3 r) hw.w10.1 hw.w10.2 H
 have er : readR (w10 w2 w3 r) = if (ofM (readE (w10 w2 w3 r))).isSome = true /\ wordsE (readE (w10 w2 w3 r)) = w10 w2 w3 r then (readE (w10 w2 w3 r),0) else ([],2) := rfl
 have tt := tk10 (w10 w2 w3 r) w10l
 have mv1 := (MapR.of (readE (w10 w2 w3 r))).one.1
 have mv2 := (MapR.of (readE (w10 w2 w3 r))).one.2
 have full : encs u64A (w0 :: w1 :: w2 :: w3 :: r) ++ rest = .int .u64 w0 :: .int .u64 w1 :: .int .u64 w2 :: .int .u64 w3 :: (encs u64A r ++ rest) := rfl
 have split10 : w0 :: w1 :: w2 :: w3 :: r = [w0,w1] ++ w10 w2 w3 r ++ r.drop 8 := by simp [w10]
 refine loop_ind (fun (x : List Int × List Int × List Int) E df H => w10 w2 w3 r = x.1 ++ x.2.1 /\ x.2.2.length = 10 /\ x.2.2.take x.1.length = x.1 /\ E 0 = .sl 1 16 (.int .u64 w0 :: .int .u64 w1 :: .int .u64 w2 :: .int .u64 w3 :: (encs u64A r ++ rest)) u1 /\ E 2 = .ptr 0 0 /\ E 3 = .int .i64 0 /\ E 4 = .ptr 1 0 /\ E 5 = .ptr 2 0 /\ E 6 = .int .i64 (x.1.length : Nat) /\ df = [] ∧
     H = [.cells [.int .i64 0,.int .i64 0,.int .i64 0,.sl 0 0 [] .z,.int .i64 0,.int .i64 0,.str ⟨#[]⟩],.cells [.int .i64 1,.int .i64 (w0 / 256),.int .i64 0,.sl 0 0 [] .z,.int .i64 0,.int .i64 0,.str ⟨#[]⟩],.cells (encs u64A x.2.2)])
   (fun x => x.2.1.length) ([],w10 w2 w3 r,wordsE []) (by decide) (.inl rfl) ⟨rfl,rfl,rfl,rfl,rfl,rfl,rfl,rfl,rfl,rfl,rfl⟩ ?_
 intro ⟨pre,suf,W⟩ E df H ih hP
 obtain ⟨q1,q2,q3,E0,E2,E3,E4,E5,E6,hdf,hH⟩ := hP
 dsimp only at q1 q2 q3 E6 hH
 subst hdf hH
 have hll : pre.length + suf.length = 10 := by rw [<- List.length_append,<- q1,w10l]
 cases suf with
 | nil =>
   simp only [List.length_nil,Nat.add_zero] at hll
   have n1 : ¬ (pre.length : Int) < 10 := by omega
   have eW : W = w10 w2 w3 r := by
     rw [List.append_nil] at q1
     rw [q1,<- q3,List.take_of_length_le (by omega)]
   subst eW
   have lw := lenU (w10 w2 w3 r)
   simp only [readV,arrV] at rd
   by_cases hE : (ofM (readE (w10 w2 w3 r))).isSome = true /\ wordsE (readE (w10 w2 w3 r)) = w10 w2 w3 r
   case neg =>
     have hg : ¬ goodI w0 w1 w2 w3 r := by
       intro hg
       obtain ⟨g1,g2⟩ := hg
       rw [ed] at g1 g2
       obtain ⟨_,_,a,b,d⟩ := (okI_1 rfl).1 g1
       refine hE ⟨mapOk_some d, ?_⟩
       have hl := wordsE_len (isSome_right (mapOk_some d)).1
       have ht : tailI ⟨1,w0 / 256,w1,readE (w10 w2 w3 r),0,0,⟨#[]⟩⟩ = w1 :: wordsE (readE (w10 w2 w3 r)) := rfl
       unfold wordsI at g2
       rw [ht] at g2
       simp only [List.cons_append,List.cons.injEq] at g2
       have g3 := congrArg (List.take 10) g2.2.2
       rw [List.take_append_of_le_length (by rw [hl]; exact Nat.le_refl _),List.take_of_length_le (by rw [hl]; exact Nat.le_refl _)] at g3
       exact g3
     rw [if_neg hg] at ro
     rw [ro]
     rw [if_neg hE] at er
     rw [er] at rd
     clear hg hE hw hll
     simp (disch := omega) only [wk,tupled,↓reduceIte,reduceEqDiff,reduceEq,reduceAdd,reduceCtorEq,E0,E2,E3,E4,E5,E6,n1,lw,w10l,tt,rd,pz]
   rw [if_pos hE] at er
   rw [er] at rd
   clear hE
   unfold mapV at mv1 mv2
   by_cases ho : okI (decI w0 w1 w2 w3 r)
   case neg =>
     have hg : ¬ goodI w0 w1 w2 w3 r := fun h => ho h.1
     rw [if_neg hg] at ro
     rw [ro]
     rw [wordsV_no ho,ed] at wp
     simp only [mapV] at wp
     clear hg ho hw
     simp (disch := omega) only [wk,tupled,↓reduceIte,reduceEqDiff,reduceEq,reduceAdd,reduceCtorEq,E0,E2,E3,E4,E5,E6,n1,lw,w10l,tt,rd,i1,v5,mv1,mv2,mapV,wp,pz]
   have sm := smok ho
   rw [wordsV_ok ho] at wp
   by_cases he : wordsI (decI w0 w1 w2 w3 r) = w0 :: w1 :: w2 :: w3 :: r
   case neg =>
     have hg : ¬ goodI w0 w1 w2 w3 r := fun h => he h.2
     rw [if_neg hg] at ro
     rw [ro]
     rw [decide_eq_false he] at sm
     rw [ed] at wp sm
     simp only [mapV] at wp
     clear hg ho hw he
     simp (disch := omega) only [wk,tupled,↓reduceIte,reduceEqDiff,reduceEq,reduceAdd,reduceCtorEq,E0,E2,E3,E4,E5,E6,n1,lw,w10l,tt,rd,i1,v5,mv1,mv2,mapV,wp,sm,pz]
   have hg : goodI w0 w1 w2 w3 r := ⟨ho,he⟩
   rw [if_pos hg] at ro
   rw [ro]
   rw [decide_eq_true he] at sm
   rw [ed] at wp sm pd ⊢
   simp only [mapV] at wp pd
   clear hg ho hw he
   simp (disch := omega) only [wk,tupled,↓reduceIte,reduceEqDiff,reduceEq,reduceAdd,reduceCtorEq,E0,E2,E3,E4,E5,E6,n1,lw,w10l,tt,rd,i1,v5,mv1,mv2,mapV,wp,sm,pd]
 | cons v r' =>
   simp only [List.length_cons] at hll
   have n1 : (pre.length : Int) < 10 := by omega
   have lW := lenU W
   have e1 : (2 : Int) + (pre.length : Int) = ((2 + pre.length : Nat) : Int) := by omega
   have n2 : ((2 + pre.length : Nat) : Int) < ((16 : Nat) : Int) := by omega
   have d : List.drop (2 + pre.length) (.int .u64 w0 :: .int .u64 w1 :: .int .u64 w2 :: .int .u64 w3 :: (encs u64A r ++ rest)) = .int .u64 v :: (encs u64A (r' ++ r.drop 8) ++ rest) := by
     rw [<- full,split10,q1]
     have h := wdrop ([w0,w1] ++ pre) v (r' ++ r.drop 8) rest
     have hl2 : ([w0,w1] ++ pre).length = 2 + pre.length := by simp; omega
     rw [hl2] at h
     rw [<- h]
     simp
   have su := setU W pre.length v (by omega)
   simp (disch := omega) only [wk,tupled,↓reduceIte,reduceEqDiff,reduceEq,reduceAdd,reduceCtorEq,E0,E2,E3,E4,E5,E6,n1,n2,e1,d,lW,q2,su,Nat.zero_add]
   refine ih (pre ++ [v],r',W.set pre.length v) _ _ _ (by simp) ?_
   refine ⟨by simp [q1],by rw [List.length_set]; exact q2, ?_,by simp only [en,↓reduceIte,reduceEqDiff,E0],by simp only [en,↓reduceIte,reduceEqDiff,E2],by simp only [en,↓reduceIte,reduceEqDiff,E3],by simp only [en,↓reduceIte,reduceEqDiff,E4],by simp only [en,↓reduceIte,reduceEqDiff,E5],by simp only [en,↓reduceIte,reduceEqDiff],rfl,rfl⟩
   dsimp only
   have hpl : pre.length < W.length := by omega
   rw [List.length_append,List.length_singleton,List.take_set,List.take_succ_eq_append_getElem hpl,q3,List.set_append_right _ _ (Nat.le_refl _),Nat.sub_self]
   rfl
end Go.Proofs.YtobhofmicgmjfaaGreat
namespace Go.Proofs.YtobhofmicgmjfaaGreat
open Go Go.Am Go.Rec
structure Frm where
 b : Int
 i : Int
 r : Int
 t : Int
def frmA (f : Frm) : List AV := [.int .i64 f.b,.int .i64 f.i,.int .i64 f.r,.int .i64 f.t]
def okF (f : Frm) : Prop := 32 <= f.b /\ f.b <= 2048 /\ 4 <= f.i /\ f.i <= 256 /\ f.i % 4 = 0 /\ 4 <= f.r /\ f.r <= 1024 /\ f.r % 4 = 0 /\ 1 <= f.t /\ f.t <= 40 /\ 4 <= f.b - (9 + f.i / 4 + f.r / 4 + 1)
instance (f : Frm) : Decidable (okF f) := inferInstanceAs (Decidable (_ /\ _))
def layA (f : Frm) (k0 k1 : Int) : List AV := frmA f ++ [.int .u64 k0,.int .u64 k1,.int .i64 9,.int .i64 (9 + f.i / 4),.int .i64 (9 + f.i / 4 + f.r / 4),.int .i64 (9 + f.i / 4 + f.r / 4 + 1)]
def lyz : List AV := [.int .i64 0,.int .i64 0,.int .i64 0,.int .i64 0,.int .u64 0,.int .u64 0,.int .i64 0,.int .i64 0,.int .i64 0,.int .i64 0]
theorem rof_px (f : Frm) (k0 k1 : Int) (H : Heap) : pcx (cbL tab) 24 [.agg (frmA f),.agg [.int .u64 k0,.int .u64 k1]] H = some (.plain (if okF f then .tup [.agg (layA f k0 k1),.int .i64 0] else .tup [.agg lyz,.int .i64 2])) := by
 refine pcx_N rfl (pc_wp (fi := c24) rfl rfl (by simp [c24]) (by decide) ?_)
 unfold c24
 have e1 : lend (.agg (frmA f)) = .agg (frmA f) := rfl
 have e2 : lend (.agg [.int .u64 k0,.int .u64 k1]) = .agg [.int .u64 k0,.int .u64 k1] := rfl
 rw [List.map_cons,List.map_cons,List.map_nil,e1,e2]
 unfold layA frmA lyz
 by_cases c1 : f.b < 32
 . rw [if_neg (by unfold okF; omega)]
   simp (disch := omega) only [wk,tupled,↓reduceIte,reduceEqDiff,reduceEq,reduceAdd,reduceCtorEq,c1,runG_un,purify,unownT,lend,unown,AV.hf,hfL]
 by_cases c2 : 2048 < f.b
 . rw [if_neg (by unfold okF; omega)]
   simp (disch := omega) only [wk,tupled,↓reduceIte,reduceEqDiff,reduceEq,reduceAdd,reduceCtorEq,c1,c2,runG_un,purify,unownT,lend,unown,AV.hf,hfL]
 by_cases c3 : f.i < 4
 . rw [if_neg (by unfold okF; omega)]
   simp (disch := omega) only [wk,tupled,↓reduceIte,reduceEqDiff,reduceEq,reduceAdd,reduceCtorEq,c1,c2,c3,runG_un,purify,unownT,lend,unown,AV.hf,hfL]
 by_cases c4 : 256 < f.i
 . rw [if_neg (by unfold okF; omega)]
   simp (disch := omega) only [wk,tupled,↓reduceIte,reduceEqDiff,reduceEq,reduceAdd,reduceCtorEq,c1,c2,c3,c4,runG_un,purify,unownT,lend,unown,AV.hf,hfL]
 by_cases c5 : ¬ f.i % 4 = 0
 . rw [if_neg (by unfold okF; omega)]
   simp (disch := omega) only [wk,tupled,↓reduceIte,reduceEqDiff,reduceEq,reduceAdd,reduceCtorEq,c1,c2,c3,c4,c5,runG_un,purify,unownT,lend,unown,AV.hf,hfL]
 by_cases c6 : f.r < 4
 . rw [if_neg (by unfold okF; omega)]
   simp (disch := omega) only [wk,tupled,↓reduceIte,reduceEqDiff,reduceEq,reduceAdd,reduceCtorEq,c1,c2,c3,c4,c5,c6,runG_un,purify,unownT,lend,unown,AV.hf,hfL]
 by_cases c7 : 1024 < f.r
 . rw [if_neg (by unfold okF; omega)]
   simp (disch := omega) only [wk,tupled,↓reduceIte,reduceEqDiff,reduceEq,reduceAdd,reduceCtorEq,c1,c2,c3,c4,c5,c6,c7,runG_un,purify,unownT,lend,unown,AV.hf,hfL]
 by_cases c8 : ¬ f.r % 4 = 0
 . rw [if_neg (by unfold okF; omega)]
   simp (disch := omega) only [wk,tupled,↓reduceIte,reduceEqDiff,reduceEq,reduceAdd,reduceCtorEq,c1,c2,c3,c4,c5,c6,c7,c8,runG_un,purify,unownT,lend,unown,AV.hf,hfL]
 by_cases c9 : f.t < 1
 . rw [if_neg (by unfold okF; omega)]
   simp (disch := omega) only [wk,tupled,↓reduceIte,reduceEqDiff,reduceEq,reduceAdd,reduceCtorEq,c1,c2,c3,c4,c5,c6,c7,c8,c9,runG_un,purify,unownT,lend,unown,AV.hf,hfL]
 by_cases c10 : 40 < f.t
 . rw [if_neg (by unfold okF; omega)]
   simp (disch := omega) only [wk,tupled,↓reduceIte,reduceEqDiff,reduceEq,reduceAdd,reduceCtorEq,c1,c2,c3,c4,c5,c6,c7,c8,c9,c10,runG_un,purify,unownT,lend,unown,AV.hf,hfL]
 have q1 : 0 <= f.i := by omega
 have q2 : 0 <= f.r := by omega
 by_cases c11 : f.b - (9 + f.i / 4 + f.r / 4 + 1) < 4
 . rw [if_neg (by unfold okF; omega)]
   simp (disch := omega) only [wk,tupled,↓reduceIte,reduceEqDiff,reduceEq,reduceAdd,reduceCtorEq,c1,c2,c3,c4,c5,c6,c7,c8,c9,c10,c11,runG_un,purify,unownT,lend,unown,AV.hf,hfL]
 . rw [if_pos (by unfold okF; omega)]
   simp (disch := omega) only [wk,tupled,↓reduceIte,reduceEqDiff,reduceEq,reduceAdd,reduceCtorEq,c1,c2,c3,c4,c5,c6,c7,c8,c9,c10,c11,runG_un,purify,unownT,lend,unown,AV.hf,hfL,List.cons_append,List.nil_append]
theorem lin_px (n lo hi : Int) (H : Heap) : pcx (cbL tab) 127 [.int .i64 n,.int .i64 lo,.int .i64 hi] H = some (.plain (.bool (decide (lo <= n /\ n <= hi)))) := by
 refine pcx_N rfl (pc_wp (fi := c127) rfl rfl (by simp [c127]) (by decide) ?_)
 unfold c127
 rw [List.map_cons,List.map_cons,List.map_cons,List.map_nil,lend_int,lend_int,lend_int]
 by_cases h1 : lo <= n <;> by_cases h2 : n <= hi <;> simp (disch := omega) only [wk,tupled,↓reduceIte,reduceEqDiff,reduceEq,reduceAdd,reduceCtorEq,h1,h2,purify,unownT,lend,unown,AV.hf,and_false,false_and]
theorem lof_px {f : Frm} (h : okF f) (k0 k1 : Int) (H : Heap) : pcx (cbL tab) 84 [.agg (frmA f),.agg [.int .u64 k0,.int .u64 k1]] H = some (.plain (.tup [.agg (layA f k0 k1),.int .i64 0])) := by
 refine pcx_N rfl (pc_wp (fi := c84) rfl rfl (by simp [c84]) (by decide) ?_)
 unfold c84
 have e1 : lend (.agg (frmA f)) = .agg (frmA f) := rfl
 have e2 : lend (.agg [.int .u64 k0,.int .u64 k1]) = .agg [.int .u64 k0,.int .u64 k1] := rfl
 rw [List.map_cons,List.map_cons,List.map_nil,e1,e2]
 obtain ⟨h1,h2,h3,h4,h5,h6,h7,h8,h9,h10,h11⟩ := h
 have p1 : decide (32 <= f.b /\ f.b <= 2048) = true := decide_eq_true ⟨h1,h2⟩
 have p2 : decide (4 <= f.i /\ f.i <= 256) = true := decide_eq_true ⟨h3,h4⟩
 have p3 : decide (4 <= f.r /\ f.r <= 1024) = true := decide_eq_true ⟨h6,h7⟩
 have p4 : decide (1 <= f.t /\ f.t <= 40) = true := decide_eq_true ⟨h9,h10⟩
 have q1 : 0 <= f.i := by omega
 have q2 : 0 <= f.r := by omega
 have i1 := fun H => lin_px f.b 32 2048 H
 have i2 := fun H => lin_px f.i 4 256 H
 have i3 := fun H => lin_px f.r 4 1024 H
 have i4 := fun H => lin_px f.t 1 40 H
 rw [p1] at i1
 rw [p2] at i2
 rw [p3] at i3
 rw [p4] at i4
 have c11 : ¬ f.b - (9 + f.i / 4 + f.r / 4 + 1) < 4 := by omega
 unfold layA frmA
 simp (disch := omega) only [wk,tupled,↓reduceIte,reduceEqDiff,reduceEq,reduceAdd,reduceCtorEq,i1,i2,i3,i4,h5,h8,c11,purify,unownT,lend,unown,AV.hf,hfL,List.cons_append,List.nil_append]
theorem lay_eql {xo yo : X} {a b c d e f g h i j : Int} : binV .eql (.struct [0,0,0,0,0,0,0,0,0,0]) xo yo (.agg [.int .i64 a,.int .i64 b,.int .i64 c,.int .i64 d,.int .u64 e,.int .u64 f,.int .i64 g,.int .i64 h,.int .i64 i,.int .i64 j]) (.agg [.int .i64 a,.int .i64 b,.int .i64 c,.int .i64 d,.int .u64 e,.int .u64 f,.int .i64 g,.int .i64 h,.int .i64 i,.int .i64 j]) = some (.bool true) := by
 have ke : ∀ a : Int,cellEq 0 (.int .i64 a) (.int .i64 a) = some true := fun a => by show some (a == a) = _; rw [beq_self_eq_true]
 have ku : ∀ a : Int,cellEq 0 (.int .u64 a) (.int .u64 a) = some true := fun a => by show some (a == a) = _; rw [beq_self_eq_true]
 show (cellsEq _ _ _).map _ = _
 simp only [cellsEq,ke,ku]
 rfl
theorem lright_px {f : Frm} (h : okF f) (k0 k1 : Int) (H : Heap) : pcx (cbL tab) 66 [.agg (layA f k0 k1)] H = some (.plain (.bool true)) := by
 refine pcx_N rfl (pc_wp (fi := c66) rfl rfl (by simp [c66]) (by decide) ?_)
 unfold c66
 have e1 : lend (.agg (layA f k0 k1)) = .agg (layA f k0 k1) := rfl
 rw [List.map_cons,List.map_nil,e1]
 have lo := fun H => lof_px h k0 k1 H
 unfold layA frmA at lo ⊢
 simp only [List.cons_append,List.nil_append] at lo ⊢
 simp (disch := omega) only [wk,tupled,↓reduceIte,reduceEqDiff,reduceEq,reduceAdd,reduceCtorEq,lo,lay_eql,purify,unownT,lend,unown,AV.hf,hfL]
def xorI (a b : Int) : Int := ((a.toNat ^^^ b.toNat : Nat) : Int)
theorem xorI_ok {a b : Int} (ha : a < 18446744073709551616) (hb : b < 18446744073709551616) : 0 <= xorI a b /\ xorI a b < 18446744073709551616 := by
 have h1 : a.toNat < 2 ^ 64 := by omega
 have h2 : b.toNat < 2 ^ 64 := by omega
 have := Nat.xor_lt_two_pow h1 h2
 unfold xorI
 omega
theorem u64_xor {xo yo : X} {ek : EqK} {a b : Int} (h0 : 0 <= a) (h1 : a < 18446744073709551616) (h2 : 0 <= b) (h3 : b < 18446744073709551616) : binV .xor ek xo yo (.int .u64 a) (.int .u64 b) = some (.int .u64 (xorI a b)) := by
 obtain ⟨a,rfl⟩ := Int.eq_ofNat_of_zero_le h0
 obtain ⟨b,rfl⟩ := Int.eq_ofNat_of_zero_le h2
 have hx := xorI_ok h1 h3
 have e : binV .xor ek xo yo (.int .u64 (a : Int)) (.int .u64 (b : Int)) = some (.int .u64 (IntKind.u64.wrap (BitVec.ofInt IntKind.u64.bits (a : Int) ^^^ BitVec.ofInt IntKind.u64.bits (b : Int)).toNat)) := rfl
 rw [e,ofInt_nat,ofInt_nat]
 have h4 : (BitVec.ofNat 64 a ^^^ BitVec.ofNat 64 b).toNat = a ^^^ b := by
   rw [BitVec.toNat_xor,BitVec.toNat_ofNat,BitVec.toNat_ofNat]
   show a % 18446744073709551616 ^^^ b % 18446744073709551616 = _
   rw [Nat.mod_eq_of_lt (by omega),Nat.mod_eq_of_lt (by omega)]
 show some (AV.int .u64 (IntKind.u64.wrap (BitVec.ofNat 64 a ^^^ BitVec.ofNat 64 b).toNat)) = _
 rw [h4]
 have e2 : xorI (a : Int) (b : Int) = ((a ^^^ b : Nat) : Int) := rfl
 rw [e2] at hx ⊢
 rw [wrap_u64 hx.1 hx.2]
theorem u64_not {a : Int} (h0 : 0 <= a) (h1 : a < 18446744073709551616) : unV .xor (.int .u64 a) = some (.int .u64 (xorI 18446744073709551615 a)) :=
 u64_xor (xo := .t 0) (yo := .t 0) (ek := .num) (by decide) (by decide) h0 h1
def polyI : Int := 14514072000185962306
def stepM (r : Int) : Int := if r % 2 = 1 then xorI (r / 2) polyI else r / 2
def U64 (a : Int) : Prop := 0 <= a /\ a < 18446744073709551616
theorem U64.x {a b : Int} (ha : U64 a) (hb : U64 b) : U64 (xorI a b) := xorI_ok ha.2 hb.2
theorem stepM_ok {r : Int} (h : U64 r) : U64 (stepM r) := by
 unfold stepM
 have h2 : U64 (r / 2) := ⟨by have := h.1; omega,by have := h.2; have := h.1; omega⟩
 split
 . exact h2.x ⟨by decide,by decide⟩
 . exact h2
theorem and1 {r : Int} (h : U64 r) {xo yo : X} {ek : EqK} : binV .and ek xo yo (.int .u64 r) (.int .u64 1) = some (.int .u64 (r % 2)) := by
 obtain ⟨a,rfl⟩ := Int.eq_ofNat_of_zero_le h.1
 have := u64_and (xo := xo) (yo := yo) (ek := ek) (a := a) (b := 1) (by have := h.2; omega)
 rw [show (1 : Nat) % 18446744073709551616 = 1 from rfl,Nat.and_one_is_mod] at this
 exact this
theorem in_step1 {args : List AV} {H : Heap} : pcx (cbL tab) 167 args H = none := pcx_none rfl (pc_none (fi := c167) rfl rfl)
theorem ll_step1 : (cbL tab).lent 167 = false := rfl
theorem step1_ic {H : Heap} {a : Nat} {r : Int} (hr : U64 r) (h : H[a]? = some (.cells [.int .u64 r])) : (cbL tab).ic 167 [.ptr a 0] H = some (.ret (.bool (decide (r % 2 = 1))),H) := by
 have : ∃ o H',(cbL tab).ic 167 [.ptr a 0] H = some (o,H') /\ o = .ret (.bool (decide (r % 2 = 1))) /\ H' = H := by
   refine ic_wp (fi := c167) rfl rfl (by simp [c167]) (by decide) ?_
   unfold c167
   have a1 := fun xo yo ek => and1 (xo := xo) (yo := yo) (ek := ek) hr
   simp (disch := omega) only [wk,tupled,↓reduceIte,reduceEqDiff,reduceEq,reduceAdd,reduceCtorEq,h,a1]
 obtain ⟨o,H',h,rfl,rfl⟩ := this
 exact h
theorem step_px {r : Int} (hr : U64 r) (H : Heap) : pcx (cbL tab) 157 [.int .u64 r] H = some (.plain (.int .u64 (stepM r))) := by
 refine pcx_N rfl (pc_wp (fi := c157) rfl rfl (by simp [c157]) (by decide) ?_)
 unfold c157
 rw [List.map_cons,List.map_nil,lend_int]
 have s1 : (cbL tab).ic 167 [.ptr 0 0] [.cells [.int .u64 r]] = _ := step1_ic (H := [.cells [.int .u64 r]]) (a := 0) hr rfl
 have sh : ∀ {xo yo : X} {ek : EqK},binV .shr ek xo yo (.int .u64 r) (.int .u64 1) = some (.int .u64 (r / 2)) := fun {xo yo ek} => u64_shr (by decide) (by decide)
 have hr2 : U64 (r / 2) := ⟨by have := hr.1; omega,by have := hr.2; have := hr.1; omega⟩
 have xp : ∀ {xo yo : X} {ek : EqK},binV .xor ek xo yo (.int .u64 (r / 2)) (.int .u64 14514072000185962306) = some (.int .u64 (xorI (r / 2) polyI)) := fun {xo yo ek} => u64_xor hr2.1 hr2.2 (by decide) (by decide)
 unfold stepM
 by_cases h : r % 2 = 1
 . rw [if_pos h]
   simp (disch := omega) only [wk,tupled,↓reduceIte,reduceEqDiff,reduceEq,reduceAdd,reduceCtorEq,s1,h,sh,xp,in_step1,runE_none ll_step1,purify,unownT,lend,unown,AV.hf,hfL]
 . rw [if_neg h]
   simp (disch := omega) only [wk,tupled,↓reduceIte,reduceEqDiff,reduceEq,reduceAdd,reduceCtorEq,s1,h,sh,xp,in_step1,runE_none ll_step1,purify,unownT,lend,unown,AV.hf,hfL]
def itM : Nat -> Int -> Int
 | 0,r => r
 | k + 1,r => itM k (stepM r)
theorem itM_ok : ∀ (k : Nat) {r : Int},U64 r -> U64 (itM k r)
 | 0,_,h => h
 | k + 1,_,h => itM_ok k (stepM_ok h)
def intoM (r : Int) (b : UInt8) : Int := itM 8 (xorI r b.toNat)
theorem by_u64 (b : UInt8) : U64 (b.toNat : Int) := ⟨by omega,by have := b.toNat_lt; omega⟩
theorem intoM_ok {r : Int} (h : U64 r) (b : UInt8) : U64 (intoM r b) := itM_ok 8 (h.x (by_u64 b))
theorem into_px {r : Int} (hr : U64 r) (b : UInt8) (H : Heap) : pcx (cbL tab) 138 [.int .u64 r,.int .u8 b.toNat] H = some (.plain (.int .u64 (intoM r b))) := by
 refine pcx_N rfl (pc_wp (fi := c138) rfl rfl (by simp [c138]) (by decide) ?_)
 unfold c138
 rw [List.map_cons,List.map_cons,List.map_nil,lend_int,lend_int]
 have hb := by_u64 b
 have xp : ∀ {xo yo : X} {ek : EqK},binV .xor ek xo yo (.int .u64 r) (.int .u64 (b.toNat : Nat)) = some (.int .u64 (xorI r b.toNat)) := fun {xo yo ek} => u64_xor hr.1 hr.2 hb.1 hb.2
 have wr : IntKind.u64.wrap (b.toNat : Int) = (b.toNat : Int) := wrap_u64 hb.1 hb.2
 simp (disch := omega) only [wk,tupled,↓reduceIte,reduceEqDiff,reduceEq,reduceAdd,reduceCtorEq,xp,wr]
 have hx := hr.x hb
 refine loop_ind (fun (x : Nat × Int) E df H => x.1 <= 8 /\ U64 x.2 /\ intoM r b = itM (8 - x.1) x.2 /\ E 0 = .int .u64 x.2 /\ E 9 = .int .i64 (x.1 : Nat) /\ df = [])
   (fun x => 8 - x.1) (0,xorI r b.toNat) (by decide) (.inl rfl) ⟨by omega,hx,rfl,rfl,rfl,rfl⟩ ?_
 intro ⟨j,q⟩ E df H ih hP
 obtain ⟨a1,a2,a3,E0,E9,hdf⟩ := hP
 dsimp only at a1 a2 a3 E0 E9
 subst hdf
 have st := fun H => step_px a2 H
 by_cases hj : j < 8
 . have n1 : (j : Int) < 8 := by omega
   simp (disch := omega) only [wk,tupled,↓reduceIte,reduceEqDiff,reduceEq,reduceAdd,reduceCtorEq,E0,E9,n1,st]
   refine ih (j + 1,stepM q) _ _ _ (by dsimp only; omega) ⟨by dsimp only; omega,stepM_ok a2, ?_,by simp only [en,↓reduceIte,reduceEqDiff],by simp only [en,↓reduceIte,reduceEqDiff],rfl⟩
   dsimp only
   rw [a3,show 8 - j = (8 - (j + 1)) + 1 by omega]
   rfl
 . obtain rfl : j = 8 := by omega
   rw [a3]
   have e : itM (8 - 8) q = q := rfl
   rw [e]
   have n1 : ¬ ((8 : Nat) : Int) < 8 := by omega
   simp (disch := omega) only [wk,tupled,↓reduceIte,reduceEqDiff,reduceEq,reduceAdd,reduceCtorEq,E0,E9,n1,purify,unownT,lend,unown,AV.hf,hfL]
def mvAs : ACode := (.region [⟨(.some 6),(.mv (.t 11)),.none⟩])
def mvBd : ACode := (.block 1 (.region [⟨(.some 12),(.load 1 false (.t 5)),.none⟩,⟨(.some 13),(.mv (.t 6)),.none⟩,⟨(.some 14),(.callf 138 [(.t 12),(.t 13)]),.none⟩,⟨.none,(.store 1 (.t 5) (.t 14)),.none⟩]))
theorem in_Val {args : List AV} {H : Heap} : pcx (cbL tab) 137 args H = none := pcx_none rfl (pc_none (fi := c137) rfl rfl)
theorem ll_Val : (cbL tab).lent 137 = false := rfl
theorem val_ic (l : List UInt8) (tk : Tk) (H : Heap) : (cbL tab).ic 137 [.sl 1 l.length (encs byA l) tk] H = some (.ret (.fn 156 [.ptr H.length 0]),H ++ [.cells [.sl 1 l.length (encs byA l) tk]]) := by
 have : ∃ o H',(cbL tab).ic 137 [.sl 1 l.length (encs byA l) tk] H = some (o,H') /\ o = .ret (.fn 156 [.ptr H.length 0]) /\ H' = H ++ [.cells [.sl 1 l.length (encs byA l) tk]] := by
   refine ic_wp (fi := c137) rfl rfl (by simp [c137]) (by decide) ?_
   unfold c137
   simp (disch := omega) only [wk,tupled,↓reduceIte,reduceEqDiff,reduceEq,reduceAdd,reduceCtorEq]
 obtain ⟨o,H',h,rfl,rfl⟩ := this
 exact h
theorem val1_ic (R : Nat -> Heap -> Prop) (id k : Nat) (L : List UInt8) (hL : L.length <= 100000) (tk : Tk)
   (hstep : ∀ (H : Heap) (j : Nat) (x : UInt8),L[j]? = some x -> R j H -> ∃ H',(cbL tab).yl id [.int .u8 (x.toNat : Nat)] H = some (.ret (.bool true),H') /\ R (j + 1) H')
   (H : Heap) (hR : R 0 H) (ha : H[k]? = some (.cells [.sl 1 L.length (encs byA L) tk])) :
   ∃ o H',(cbL tab).ic 156 [.yld id,.ptr k 0] H = some (o,H') /\ o = .ret (.tup []) /\ R L.length H' := by
 refine ic_wp (fi := c156) rfl rfl (by simp [c156]) (by decide) ?_
 unfold c156
 simp (disch := omega) only [wk,tupled,↓reduceIte,reduceEqDiff,reduceEq,reduceAdd,reduceCtorEq,ha]
 refine loop_ind (fun (x : List UInt8 × List UInt8) E df H => L = x.1 ++ x.2 /\ E 0 = .yld id /\ E 5 = .sl 1 L.length (encs byA L) tk /\ E 6 = .int .i64 (L.length : Nat) /\ E 7 = .int .i64 (x.1.length : Nat) /\ df = [] /\ R x.1.length H)
   (fun x => x.2.length) ([],L) (by decide) (.inl rfl) ⟨rfl,rfl,rfl,rfl,rfl,rfl,hR⟩ ?_
 intro ⟨pre,suf⟩ F df H1 ih hP
 obtain ⟨a1,F0,F5,F6,F7,hdf,hR1⟩ := hP
 dsimp only at a1 F7 hR1
 subst hdf
 have la : L.length = pre.length + suf.length := by rw [a1,List.length_append]
 cases suf with
 | nil =>
   have n1 : ¬ (pre.length : Int) < (L.length : Int) := by simp at la; omega
   have e : pre.length = L.length := by simp at la; omega
   rw [e] at hR1
   simp (disch := omega) only [wk,tupled,↓reduceIte,reduceEqDiff,reduceEq,reduceAdd,reduceCtorEq,F0,F5,F6,F7,n1]
   exact hR1
 | cons x r =>
   simp only [List.length_cons] at la
   have d1 : List.drop pre.length (encs byA L) = .int .u8 (x.toNat : Nat) :: encs byA r := by
     have := tdrop pre x r
     rw [Nat.mul_one] at this
     rw [a1,this]
   have n1 : (pre.length : Int) < (L.length : Int) := by omega
   obtain ⟨H2,y1,y2⟩ := hstep H1 pre.length x (by rw [a1,List.getElem?_append_right (Nat.le_refl _),Nat.sub_self]; rfl) hR1
   simp (disch := omega) only [wk,tupled,↓reduceIte,reduceEqDiff,reduceEq,reduceAdd,reduceCtorEq,F0,F5,F6,F7,n1,d1,y1,Bool.not_true]
   refine ih (pre ++ [x],r) _ _ _ (by simp) ?_
   exact ⟨by simp [a1],by simp only [en,↓reduceIte,reduceEqDiff,F0],by simp only [en,↓reduceIte,reduceEqDiff,F5],by simp only [en,↓reduceIte,reduceEqDiff,F6],by simp only [en,↓reduceIte,reduceEqDiff],rfl,by dsimp only; rw [List.length_append]; exact y2⟩
def foldM (l : List UInt8) (r : Int) : Int := l.foldl intoM r
theorem foldM_ok : ∀ (l : List UInt8) {r : Int},U64 r -> U64 (foldM l r)
 | [],_,h => h
 | b :: l,_,h => foldM_ok l (intoM_ok h b)
theorem foldM_take {l : List UInt8} {j : Nat} {x : UInt8} (h : l[j]? = some x) (r : Int) : foldM (l.take (j + 1)) r = intoM (foldM (l.take j) r) x := by
 rw [List.take_add_one,h]
 unfold foldM
 rw [List.foldl_append]
 rfl
structure MvR (k id : Nat) (L : List UInt8) (r0 : Int) (H1 : Heap) (j : Nat) (H : Heap) : Prop where
 own : H[k]? = some (.cells [.int .u64 (foldM (L.take j) r0)])
 keep : ∀ (i : Nat) (o : AObj),i ≠ k -> H1[i]? = some o -> H[i]? = some o
theorem mv_round {k id : Nat} {tm : List AV} {L : List UInt8} {r0 : Int} (hr0 : U64 r0) {H1 : Heap} {E : Env} (ha : Ag 17 tm E) (E5 : E 5 = .ptr k 0) (hki : k ≠ id) (hlo : H1[id]? = some (.loop 0 .normal tm [11] mvAs mvBd))
   (j : Nat) (x : UInt8) (hx : L[j]? = some x) (H : Heap) (hR : MvR k id L r0 H1 j H) :
   ∃ H',(cbL tab).yl id [.int .u8 (x.toNat : Nat)] H = some (.ret (.bool true),H') /\ MvR k id L r0 H1 (j + 1) H' := by
 obtain ⟨hv,hkeep⟩ := hR
 have hloH := hkeep id _ (fun e => hki e.symm) hlo
 have ip := fun H => into_px (foldM_ok (L.take j) hr0) x H
 have key := yl_wp (tab := tab) (id := id) (P := fun b H' => b = true /\ MvR k id L r0 H1 (j + 1) H') (args := [.int .u8 (x.toNat : Nat)]) (H := H) (readLoop_of hloH) ha rfl (by decide) (by decide) (by decide) (by decide) (by decide) ?_
 . obtain ⟨b,H',k1,rfl,k2⟩ := key
   exact ⟨H',k1,k2⟩
 unfold mvAs
 simp (disch := omega) only [wk,tupled,↓reduceIte,reduceEqDiff,reduceEq,reduceAdd,reduceCtorEq,updPs_cons,updPs_nil]
 refine ⟨rfl,rfl,_,_,_,_,_,readLoop_of hloH, ?_⟩
 unfold mvBd
 have kk : ∀ o,(H.set id o)[k]? = some (.cells [.int .u64 (foldM (L.take j) r0)]) := fun o => by rw [List.getElem?_set_ne (fun e => hki e.symm)]; exact hv
 rw [<- foldM_take hx] at ip
 simp (disch := omega) only [wk,tupled,↓reduceIte,reduceEqDiff,reduceEq,reduceAdd,reduceCtorEq,E5,kk,ip]
 have i2 : ∀ o o',((H.set id o).set k o')[id]? = some o := fun o o' => by rw [List.getElem?_set_ne hki,List.getElem?_set_self (List.getElem?_eq_some_iff.1 hloH).1]
 refine ⟨rfl,_,_,_,_,_,_,readLoop_of (i2 _ _),rfl, ?_, ?_⟩
 . rw [List.getElem?_set_ne (fun e => hki e.symm),List.getElem?_set_self]
   rw [List.length_set]
   exact (List.getElem?_eq_some_iff.1 hv).1
 . intro i o hi ho'
   by_cases hii : i = id
   . subst hii
     rw [hlo] at ho'
     cases ho'
     rw [List.getElem?_set_self (by simpa using (List.getElem?_eq_some_iff.1 hloH).1)]
     rfl
   . rw [List.getElem?_set_ne (fun e => hii e.symm),List.getElem?_set_ne (fun e => hi e.symm),List.getElem?_set_ne (fun e => hii e.symm)]
     exact hkeep i o hi ho'
def ones : Int := 18446744073709551615
def moreM (s : Int) (l : List UInt8) : Int := xorI ones (foldM l (xorI ones s))
theorem ones_ok : U64 ones := ⟨by decide,by decide⟩
theorem moreM_ok {s : Int} (h : U64 s) (l : List UInt8) : U64 (moreM s l) := ones_ok.x (foldM_ok l (ones_ok.x h))
theorem more_px {s : Int} (hs : U64 s) (l : List UInt8) (hl : l.length <= 100000) (tk : Tk) (H : Heap) : pcx (cbL tab) 116 [.int .u64 s,.sl 1 l.length (encs byA l) tk] H = some (.plain (.int .u64 (moreM s l))) := by
 obtain ⟨u1,e1,f1⟩ := lend_sl 1 l.length (encs byA l) tk
 have hfb : hfL (encs byA l) = true := hfL_encs (fun _ => rfl) l
 refine pcx_N rfl (pc_wp (fi := c116) rfl ?_ (by simp [c116]) (by decide) ?_)
 . simp only [pcOn,List.map_cons,List.map_nil,hfL,hf_lend_sl,hf_lend_int,hf_lend_bool,hf_lend_str,hfL_append,Bool.and_self,Bool.and_true,Bool.true_and,c116,hfb]
 unfold c116
 rw [List.map_cons,List.map_cons,List.map_nil,e1,lend_int]
 have un := u64_not hs.1 hs.2
 have vi : (cbL tab).ic 137 [.sl 1 l.length (encs byA l) u1] [.cells [.int .u64 (xorI ones s)]] = _ := val_ic l u1 [.cells [.int .u64 (xorI ones s)]]
 have un' : unV .xor (.int .u64 s) = some (.int .u64 (xorI ones s)) := un
 have hr0 := ones_ok.x hs
 simp (disch := omega) only [wk,tupled,↓reduceIte,reduceEqDiff,reduceEq,reduceAdd,reduceCtorEq,un',vi,in_Val,runE_none ll_Val]
 refine ret_range (f := 156) (caps := [.ptr 1 0]) (by simp only [en,↓reduceIte,reduceEqDiff,evE_t]) (fun tm ha => ?_)
 obtain ⟨o,H2,q1,rfl,hR⟩ := val1_ic (fun j H => MvR 0 3 l (xorI ones s) [.cells [.int .u64 (xorI ones s)],.cells [.sl 1 l.length (encs byA l) u1],.defd,.loop 0 .normal tm [11] mvAs mvBd] j H) 3 1 l hl u1
   (fun H j x hx hR => mv_round hr0 ha (by simp only [en,↓reduceIte,reduceEqDiff]) (by decide) rfl j x hx H hR)
   [.cells [.int .u64 (xorI ones s)],.cells [.sl 1 l.length (encs byA l) u1],.defd,.loop 0 .normal tm [11] mvAs mvBd] ⟨rfl,fun _ _ _ h => h⟩ rfl
 obtain ⟨hv,hkeep⟩ := hR
 have l2 := hkeep 3 _ (by decide) rfl
 have d2 := hkeep 2 _ (by decide) rfl
 refine ⟨_,H2,_,_,_,_,_,_,q1,readLoop_of l2,by decide,rfl, ?_⟩
 change Ret _ _ _ _ _ _ _ _ (H2.set 3 (.loop 3 .normal tm [11] mvAs mvBd))
 rw [List.take_of_length_le (Nat.le_refl _)] at hv
 have v3 : (H2.set 3 (.loop 3 .normal tm [11] mvAs mvBd))[0]? = some (.cells [.int .u64 (foldM l (xorI ones s))]) := by rw [List.getElem?_set_ne (by decide)]; exact hv
 have d3 : (H2.set 3 (.loop 3 .normal tm [11] mvAs mvBd))[2]? = some .defd := by rw [List.getElem?_set_ne (by decide)]; exact d2
 have fo := foldM_ok l hr0
 have un2 : unV .xor (.int .u64 (foldM l (xorI ones s))) = some (.int .u64 (moreM s l)) := u64_not fo.1 fo.2
 simp (disch := omega) only [wk,tupled,↓reduceIte,reduceEqDiff,reduceEq,reduceAdd,reduceCtorEq,v3,un2]
 rw [ends_mark d3]
 simp (disch := omega) only [wk,tupled,↓reduceIte,reduceEqDiff,reduceEq,reduceAdd,reduceCtorEq,purify,unownT,lend,unown,AV.hf,hfL]
theorem sum_px (l : List UInt8) (hl : l.length <= 100000) (tk : Tk) (H : Heap) : pcx (cbL tab) 75 [.sl 1 l.length (encs byA l) tk] H = some (.plain (.int .u64 (moreM 0 l))) := by
 obtain ⟨u1,e1,f1⟩ := lend_sl 1 l.length (encs byA l) tk
 have hfb : hfL (encs byA l) = true := hfL_encs (fun _ => rfl) l
 refine pcx_N rfl (pc_wp (fi := c75) rfl ?_ (by simp [c75]) (by decide) ?_)
 . simp only [pcOn,List.map_cons,List.map_nil,hfL,hf_lend_sl,hf_lend_int,hf_lend_bool,hf_lend_str,hfL_append,Bool.and_self,Bool.and_true,Bool.true_and,c75,hfb]
 unfold c75
 rw [List.map_cons,List.map_nil,e1]
 have mp := fun H => more_px (s := 0) ⟨by decide,by decide⟩ l hl u1 H
 simp (disch := omega) only [wk,tupled,↓reduceIte,reduceEqDiff,reduceEq,reduceAdd,reduceCtorEq,mp,purify,unownT,lend,unown,AV.hf,hfL]
theorem repL_u64 (m : Nat) : repL m [AV.int .u64 0] = encs u64A (List.replicate m 0) := by
 induction m with
 | zero => rfl
 | succ m ih => rw [repL,ih,List.replicate_succ,encs_cons]; rfl
theorem appz_row (l : List Int) (g : Nat) (H : Heap) (hl : l.length <= 64) (hg : H[g]? = some (.tok 1)) (h0 : l ≠ []) :
   ∃ v' H',appzV 1 8 [.int .u64 0] (.sl 1 l.length (encs u64A l) (.own g)) (.int .i64 (64 - (l.length : Int))) H = some (.val v',H') /\ Own H' 1 v' (l ++ List.replicate (64 - l.length) 0).length (encs u64A (l ++ List.replicate (64 - l.length) 0)) /\ (∀ s n c,v' ≠ .sl s n c .e) := by
 have hp : l.length ≠ 0 := fun h => h0 (List.length_eq_zero_iff.1 h)
 have hm : madeN 1 8 [.int .u64 0] (.int .i64 (64 - (l.length : Int))) (.int .i64 (64 - (l.length : Int))) = some (64 - l.length) := by
   have e : (64 - (l.length : Int)).toNat = 64 - l.length := by omega
   simp only [madeN,e]
   rw [if_pos ⟨trivial,by omega,rfl,rfl,by omega,by omega⟩]
 by_cases hm0 : 64 - l.length = 0
 . refine ⟨.sl 1 l.length (encs u64A l) (.own g),H, ?_, ?_,by intro s n c h; cases h⟩
   . simp only [appzV,hm,hm0,appV]
     have h1 : l.length * 8 <= 70368744177664 := by omega
     simp [h1]
     omega
   . rw [hm0,List.replicate_zero,List.append_nil]
     exact .inr ⟨hp,g,rfl,hg⟩
 . refine ⟨.sl 1 (l.length + (64 - l.length)) (encs u64A l ++ repL (64 - l.length) [.int .u64 0]) (.own H.length),H.set g .dead ++ [.tok 1], ?_, ?_,by intro s n c h; cases h⟩
   . simp only [appzV,hm,appV,repL_u64]
     have h1 : (l.length + (64 - l.length)) * 8 <= 70368744177664 := by omega
     have h2 : l.length + (64 - l.length) <= 70368744177664 := by omega
     have h3 : (64 - l.length) * 1 <= (encs u64A (List.replicate (64 - l.length) 0)).length := by rw [lenU,List.length_replicate]; omega
     have h4 : (encs u64A (List.replicate (64 - l.length) 0)).take ((64 - l.length) * 1) = encs u64A (List.replicate (64 - l.length) 0) := List.take_of_length_le (by rw [lenU,List.length_replicate]; omega)
     simp only [hm0,h1,h2,h3,h4,one_u64A,hg,Nat.one_pos,and_self,if_true,if_false,true_and,and_true]
   . rw [repL_u64,<- encs_append,List.length_append,List.length_replicate]
     refine .inr ⟨by omega,H.length,rfl, ?_⟩
     rw [List.getElem?_append_right (by simp)]
     simp
theorem padded_ic (l : List Int) (g : Nat) (H : Heap) (hl : l.length <= 64) (hg : H[g]? = some (.tok 1)) (h0 : l ≠ []) :
   pcx (cbL tab) 67 [.sl 1 l.length (encs u64A l) (.own g)] H = none /\ ∃ v' H',(cbL tab).ic 67 [.sl 1 l.length (encs u64A l) (.own g)] H = some (.ret v',H') /\ Own H' 1 v' (l ++ List.replicate (64 - l.length) 0).length (encs u64A (l ++ List.replicate (64 - l.length) 0)) /\ (∀ s n c,v' ≠ .sl s n c .e) := by
 have hon : pcOn c67 [.sl 1 l.length (encs u64A l) (.own g)] = false := by
   simp [pcOn,c67,hfL,AV.hf,Tk.hf]
 refine ⟨pcx_none rfl (pc_none (fi := c67) rfl hon), ?_⟩
 have : ∃ o H',(cbL tab).ic 67 [.sl 1 l.length (encs u64A l) (.own g)] H = some (o,H') /\ ∃ v',o = .ret v' /\ Own H' 1 v' (l ++ List.replicate (64 - l.length) 0).length (encs u64A (l ++ List.replicate (64 - l.length) 0)) /\ (∀ s n c,v' ≠ .sl s n c .e) := by
   refine ic_wp (fi := c67) rfl hon (by simp [c67]) (by decide) ?_
   unfold c67
   obtain ⟨v',H',h1,h2,h3⟩ := appz_row l g H hl hg h0
   simp (disch := omega) only [wk,tupled,↓reduceIte,reduceEqDiff,reduceEq,reduceAdd,reduceCtorEq,h1]
   exact ⟨_,rfl,by rw [<- List.length_append]; exact h2,h3⟩
 obtain ⟨o,H',h1,v',rfl,h2,h3⟩ := this
 exact ⟨v',H',h1,h2,h3⟩
theorem lpad : (cbL tab).lent 67 = false := rfl
theorem bytM_ne {l : List Int} (h : l ≠ []) : bytM l ≠ [] := by
 cases l with
 | nil => exact absurd rfl h
 | cons w r => intro e; have := congrArg List.length e; simp [bytM,bytN] at this
theorem wsum_px {l : List Int} (h0 : l ≠ []) (hl : l.length <= 100) (hb : (bytM l).length <= 100000) (hw : ∀ w ∈ l,U64 w) (tk : Tk) (H : Heap) : pcx (cbL tab) 57 [.sl 1 l.length (encs u64A l) tk] H = some (.plain (.int .u64 (moreM 0 (bytM l)))) := by
 obtain ⟨u1,e1,f1⟩ := lend_sl 1 l.length (encs u64A l) tk
 have hfu : hfL (encs u64A l) = true := hfL_encs (fun _ => rfl) l
 refine pcx_N rfl (pc_wp (fi := c57) rfl ?_ (by simp [c57]) (by decide) ?_)
 . simp only [pcOn,List.map_cons,List.map_nil,hfL,hf_lend_sl,hf_lend_int,hf_lend_bool,hf_lend_str,hfL_append,Bool.and_self,Bool.and_true,Bool.true_and,c57,hfu]
 unfold c57
 rw [List.map_cons,List.map_nil,e1]
 have bp := fun H => bytes_v (l := l) (rest := []) (H := H) (v := .sl 1 l.length (encs u64A l ++ []) u1) (lendK_sl H 4 1 _ _ u1) hl rfl rfl hw f1
 rw [List.append_nil,prRow_ne (bytM_ne h0)] at bp
 have sp := fun g H => sum_px (bytM l) hb (.own g) H
 simp (disch := omega) only [wk,tupled,↓reduceIte,reduceEqDiff,reduceEq,reduceAdd,reduceCtorEq,bp,sp,purify,unownT,lend,unown,AV.hf,hfL]
theorem rzU {xo yo : X} {s n : Nat} {cs : List AV} : binV .eql .slice xo yo (.sl s n cs .ro) (.sl 0 0 [] .z) = some (.bool false) := rfl
theorem cloneU_px {l : List Int} (h0 : l ≠ []) (hl : l.length <= 1000) {tk : Tk} (ht : tk = .ro ∨ ∃ g,tk = .own g) (H : Heap) : pcx (cbL tab) 58 [.sl 1 l.length (encs u64A l) tk] H = some (.fresh 1 l.length (encs u64A l)) := by
 have el : lend (.sl 1 l.length (encs u64A l) tk) = .sl 1 l.length (encs u64A l) .ro := by rcases ht with rfl | ⟨g,rfl⟩ <;> rfl
 have hfu : hfL (encs u64A l) = true := hfL_encs (fun _ => rfl) l
 have n0 : l.length ≠ 0 := fun e => h0 (List.eq_nil_of_length_eq_zero e)
 refine pcx_N rfl (pc_wp (fi := c58) rfl ?_ (by simp [c58]) (by decide) ?_)
 . show hfL [lend _] = true
   rw [el]
   simp [hfL,AV.hf,hfu,Tk.hf]
 unfold c58
 rw [List.map_cons,List.map_nil,el]
 have own0 : Own ([] : Heap) 1 (.sl 1 0 [] .e) 0 [] := .inl ⟨.inr rfl,rfl,rfl⟩
 simp (disch := omega) only [wk,tupled,↓reduceIte,reduceEqDiff,reduceEq,reduceAdd,reduceCtorEq,rzU]
 refine runX_app own0 (by omega) (by omega) (by omega) n0 (by rw [lenU]; omega) (one_u64A _) (fun H2 q1 q2 q3 => ?_)
 simp only [Nat.zero_add,List.nil_append] at q1 ⊢
 simp (disch := omega) only [wk,tupled,↓reduceIte,reduceEqDiff,reduceEq,reduceAdd,reduceCtorEq]
 rw [<- prRow_ne (f := u64A) (sz := 1) h0]
 exact purify_row (fun _ => rfl) q1 (fun e => absurd e h0)
def sealM (l : List Int) : List Int := l ++ [moreM 0 (bytM l)]
theorem seal_px {l : List Int} (h0 : l ≠ []) (hl : l.length <= 100) (hb : (bytM l).length <= 100000) (hw : ∀ w ∈ l,U64 w) {tk : Tk} (ht : tk = .ro ∨ ∃ g,tk = .own g) (H : Heap) :
   pcx (cbL tab) 59 [.sl 1 l.length (encs u64A l) tk] H = some (.fresh 1 (sealM l).length (encs u64A (sealM l))) := by
 have el : lend (.sl 1 l.length (encs u64A l) tk) = .sl 1 l.length (encs u64A l) .ro := by rcases ht with rfl | ⟨g,rfl⟩ <;> rfl
 have hfu : hfL (encs u64A l) = true := hfL_encs (fun _ => rfl) l
 have n0 : l.length ≠ 0 := fun e => h0 (List.eq_nil_of_length_eq_zero e)
 refine pcx_N rfl (pc_wp (fi := c59) rfl ?_ (by simp [c59]) (by decide) ?_)
 . show hfL [lend _] = true
   rw [el]
   simp [hfL,AV.hf,hfu,Tk.hf]
 unfold c59
 rw [List.map_cons,List.map_nil,el]
 have cp := fun H => cloneU_px h0 (by omega) (tk := .ro) (.inl rfl) H
 have wp := fun H => wsum_px h0 hl hb hw .ro H
 simp (disch := omega) only [wk,tupled,↓reduceIte,reduceEqDiff,reduceEq,reduceAdd,reduceCtorEq,cp,wp]
 have ho : Own ([AObj.tok 1] : Heap) 1 (.sl 1 l.length (encs u64A l) (.own 0)) l.length (encs u64A l) := .inr ⟨n0,0,rfl,rfl⟩
 refine runX_app ho (by omega) (by omega) (by omega) (by omega) rfl rfl (fun H2 q1 q2 q3 => ?_)
 have ee : encs u64A l ++ [.int .u64 (moreM 0 (bytM l))] = encs u64A (sealM l) := by unfold sealM; rw [encs_append]; rfl
 have eln : l.length + 1 = (sealM l).length := by unfold sealM; simp
 rw [ee,eln] at q1 ⊢
 have hne : sealM l ≠ [] := by unfold sealM; simp
 simp (disch := omega) only [wk,tupled,↓reduceIte,reduceEqDiff,reduceEq,reduceAdd,reduceCtorEq]
 rw [<- prRow_ne (f := u64A) (sz := 1) hne]
 exact purify_row (fun _ => rfl) q1 (fun e => absurd e hne)
theorem super_px {f : Frm} (h : okF f) {k0 k1 : Int} (hk0 : U64 k0) (hk1 : U64 k1) : ∃ v,∀ H,pcx (cbL tab) 48 [.agg (layA f k0 k1)] H = some (.plain (.tup [v,.int .i64 0])) := by
 have hr := fun H => lright_px h k0 k1 H
 obtain ⟨h1,h2,h3,h4,h5,h6,h7,h8,h9,h10,h11⟩ := h
 have w1 : IntKind.u64.wrap f.b = f.b := wrap_u64 (by omega) (by omega)
 have w2 : IntKind.u64.wrap f.i = f.i := wrap_u64 (by omega) (by omega)
 have w3 : IntKind.u64.wrap f.r = f.r := wrap_u64 (by omega) (by omega)
 have w4 : IntKind.u64.wrap f.t = f.t := wrap_u64 (by omega) (by omega)
 generalize hl : [3555397645633865032,f.b,f.i,f.r,f.t,k0,k1] = l
 have hl7 : l.length = 7 := by rw [<- hl]; rfl
 have le : encs u64A l = [.int .u64 3555397645633865032,.int .u64 f.b,.int .u64 f.i,.int .u64 f.r,.int .u64 f.t,.int .u64 k0,.int .u64 k1] := by rw [<- hl]; rfl
 have hne : l ≠ [] := by rw [<- hl]; simp
 have hw : ∀ w ∈ l,U64 w := by
   rw [<- hl]
   intro w hw
   simp only [List.mem_cons,List.not_mem_nil,or_false] at hw
   rcases hw with rfl | rfl | rfl | rfl | rfl | rfl | rfl
   . exact ⟨by decide,by decide⟩
   . exact ⟨by omega,by omega⟩
   . exact ⟨by omega,by omega⟩
   . exact ⟨by omega,by omega⟩
   . exact ⟨by omega,by omega⟩
   . exact hk0
   . exact hk1
 have sp := fun H => seal_px hne (by omega) (by rw [bytM_len]; omega) hw (tk := .ro) (.inl rfl) H
 rw [le,hl7] at sp
 have hs8 : (sealM l).length = 8 := by unfold sealM; simp [hl7]
 have hsn : sealM l ≠ [] := by unfold sealM; simp
 have key : ∃ r,(cbL tab).pc 48 [.agg (layA f k0 k1)] = some r /\ ∃ v,r = .plain (.tup [v,.int .i64 0]) := by
   refine pc_wpE (fi := c48) rfl rfl (by simp [c48]) (by decide) ?_
   unfold c48
   have e1 : lend (.agg (layA f k0 k1)) = .agg (layA f k0 k1) := rfl
   rw [List.map_cons,List.map_nil,e1]
   unfold layA frmA at hr ⊢
   simp only [List.cons_append,List.nil_append] at hr ⊢
   have x0 : 4 + Int.toNat 0 = 4 := rfl
   have x1 : 4 + Int.toNat 1 = 5 := rfl
   obtain ⟨pn,v',H',p1,p2,p3⟩ := padded_ic (sealM l) 2 [.cells [.int .i64 f.b,.int .i64 f.i,.int .i64 f.r,.int .i64 f.t,.int .u64 k0,.int .u64 k1,.int .i64 9,.int .i64 (9 + f.i / 4),.int .i64 (9 + f.i / 4 + f.r / 4),.int .i64 (9 + f.i / 4 + f.r / 4 + 1)],.cells [.int .i64 f.b,.int .i64 f.i,.int .i64 f.r,.int .i64 f.t],.tok 1] (by omega) rfl hsn
   simp (disch := omega) only [wk,tupled,↓reduceIte,reduceEqDiff,reduceEq,reduceAdd,reduceCtorEq,hr,w1,w2,w3,w4,x0,x1,sp,pn,p1,runE_none lpad]
   have hfu : ∀ l : List Int,hfL (encs u64A l) = true := fun l => hfL_encs (fun _ => rfl) l
   rcases p2 with ⟨_,h,_⟩ | ⟨_,g,rfl,_⟩
   . rw [List.length_append] at h
     omega
   . refine ⟨.plain (.tup [.sl 1 (sealM l ++ List.replicate (64 - (sealM l).length) 0).length (encs u64A (sealM l ++ List.replicate (64 - (sealM l).length) 0)) .ro,.int .i64 0]), ?_,_,rfl⟩
     simp only [purify,unownT,lend,unown,List.map_cons,List.map_nil,AV.hf,hfL,hfu,Tk.hf,Bool.and_self,if_true]
 obtain ⟨r,h1,v,rfl⟩ := key
 exact ⟨v,fun H => pcx_N rfl h1⟩
end Go.Proofs.YtobhofmicgmjfaaGreat
namespace Go.Proofs.YtobhofmicgmjfaaGreat
open Go Go.Am Go.Rec Go.Ino
structure Redo where
 k : Int
 i : Int
 ws : List Int
 fr : Int
 to : Int
 fk : Int
 tk : Int
 rc : Int
 dir : Bool
deriving DecidableEq
def redA (r : Redo) : List AV := .int .i64 r.k :: .int .i64 r.i :: (encs u64A r.ws ++ [.int .i64 r.fr,.int .i64 r.to,.int .u64 r.fk,.int .u64 r.tk,.int .i64 r.rc,.bool r.dir])
def ws0 : List Int := List.replicate 16 0
def red0 : Redo := ⟨0,0,ws0,0,0,0,0,0,false⟩
def fileW (ws : List Int) : Bool := match ws with
 | w0 :: w1 :: w2 :: w3 :: r => decide ((ofI w0 w1 w2 w3 r).2 = 0 /\ (ofI w0 w1 w2 w3 r).1.kind = 1)
 | _ => false
def mayB (f : Frm) (r : Redo) : Prop :=
 (r.k = 1 /\ fileW r.ws = true /\ r.fr = 0 /\ r.to = 0 /\ r.fk = 0 /\ r.tk = 0 /\ r.rc = 0 /\ r.dir = false) ∨
 (r.k = 2 /\ r.ws = ws0 /\ (1 <= r.fr /\ r.fr <= f.i) /\ (1 <= r.to /\ r.to <= f.i) /\ (1 <= r.rc /\ r.rc <= f.r) /\ (r.fr ≠ r.to ∨ r.fk ≠ r.tk))
instance (f : Frm) (r : Redo) : Decidable (mayB f r) := inferInstanceAs (Decidable (_ ∨ _))
def mayR (f : Frm) (r : Redo) : Prop := (1 <= r.i /\ r.i <= f.i) /\ mayB f r
instance (f : Frm) (r : Redo) : Decidable (mayR f r) := inferInstanceAs (Decidable (_ /\ _))
structure RedT (r : Redo) : Prop where
 k0 : -9223372036854775808 <= r.k
 k1 : r.k < 9223372036854775808
 i0 : -9223372036854775808 <= r.i
 i1 : r.i < 9223372036854775808
 wl : r.ws.length = 16
 wu : ∀ w ∈ r.ws,U64 w
 f0 : -9223372036854775808 <= r.fr
 f1 : r.fr < 9223372036854775808
 t0 : -9223372036854775808 <= r.to
 t1 : r.to < 9223372036854775808
 fk : U64 r.fk
 tk : U64 r.tk
 r0 : -9223372036854775808 <= r.rc
 r1 : r.rc < 9223372036854775808
def dirI (b : Bool) : Int := if b then 1 else 0
def bodyR (r : Redo) : List Int := if r.k = 1 then r.i :: r.ws else [r.fr,r.fk,r.to,r.tk,r.rc,r.i,dirI r.dir]
def headR (r : Redo) : Int := if r.k = 1 then 4353 else 1794
def plainR (r : Redo) : List Int := headR r :: bodyR r
def wordsR (r : Redo) : List Int := sealM (plainR r)
def manyW (w : List Int) : Nat := if w.getD 0 0 = 4353 then 18 else 8
def decR (w : List Int) : Redo :=
 if w.getD 0 0 = 4353 then ⟨1,w.getD 1 0,(w.drop 2).take 16,0,0,0,0,0,false⟩
 else ⟨2,w.getD 6 0,ws0,w.getD 1 0,w.getD 3 0,w.getD 2 0,w.getD 4 0,w.getD 5 0,decide (w.getD 7 0 = 1)⟩
def goodW (f : Frm) (w : List Int) : Prop :=
 (w.getD 0 0 = 4353 ∨ (w.getD 0 0 = 1794 /\ w.getD 7 0 <= 1)) /\ mayR f (decR w) /\ sealM (w.take (manyW w)) = w.take (manyW w + 1)
instance (f : Frm) (w : List Int) : Decidable (goodW f w) := inferInstanceAs (Decidable (_ /\ _))
def ofW (f : Frm) (w : List Int) : Redo × Bool × Int :=
 if w.length ≠ 64 then (red0,false,310) else if w.getD 0 0 = 0 then (red0,false,0) else if goodW f w then (decR w,true,0) else (red0,false,310)
theorem mayB_k {f : Frm} {r : Redo} (h : mayB f r) : r.k = 1 ∨ r.k = 2 := by rcases h with h | h; exact .inl h.1; exact .inr h.1
theorem plainR_len {r : Redo} (ht : RedT r) : (plainR r).length = if r.k = 1 then 18 else 8 := by
 unfold plainR bodyR
 split
 . simp [ht.wl]
 . rfl
theorem wordsR_len {r : Redo} (ht : RedT r) : (wordsR r).length = if r.k = 1 then 19 else 9 := by
 unfold wordsR sealM
 rw [List.length_append,plainR_len ht]
 split <;> rfl
theorem wordsR_0 (r : Redo) : (wordsR r).getD 0 0 = headR r := rfl
theorem headR_ne (r : Redo) : headR r ≠ 0 := by unfold headR; split <;> decide
theorem plainR_u {r : Redo} (ht : RedT r) {f : Frm} (hf : okF f) (hm : mayR f r) : ∀ w ∈ plainR r,U64 w := by
 intro w hw
 obtain ⟨_,_,_,f2,_,_,f3,_⟩ := hf
 obtain ⟨⟨i1,i2⟩,hm⟩ := hm
 have hh : U64 (headR r) := by unfold headR; split <;> exact ⟨by decide,by decide⟩
 have hi : U64 r.i := ⟨by omega,by omega⟩
 rcases List.mem_cons.1 hw with rfl | hw
 . exact hh
 unfold bodyR at hw
 split at hw
 . rcases List.mem_cons.1 hw with rfl | hw
   . exact hi
   . exact ht.wu w hw
 . rename_i h1
   rcases hm with h | ⟨_,_,a1,a2,a3,_⟩
   . exact absurd h.1 h1
   simp only [List.mem_cons,List.not_mem_nil,or_false] at hw
   rcases hw with rfl | rfl | rfl | rfl | rfl | rfl | rfl
   . exact ⟨by omega,by omega⟩
   . exact ht.fk
   . exact ⟨by omega,by omega⟩
   . exact ht.tk
   . exact ⟨by omega,by omega⟩
   . exact hi
   . unfold dirI; split <;> exact ⟨by decide,by decide⟩
theorem redo_eq {r : Redo} (hk : r.k = 1 ∨ r.k = 2) {f : Frm} (hm : mayB f r) (ht : RedT r) (rest : List Int) : decR (plainR r ++ rest) = r := by
 obtain ⟨k,i,ws,fr,to,fk,tk,rc,dir⟩ := r
 have hl := ht.wl
 dsimp only at hl
 rcases hm with ⟨a,_,b1,b2,b3,b4,b5,b6⟩ | ⟨a,b,_⟩
 . dsimp only at a b1 b2 b3 b4 b5 b6
   subst a b1 b2 b3 b4 b5 b6
   have e : plainR ⟨1,i,ws,0,0,0,0,0,false⟩ ++ rest = 4353 :: i :: (ws ++ rest) := rfl
   have t : (ws ++ rest).take 16 = ws := by rw [<- hl,List.take_left]
   rw [e]
   show Redo.mk 1 i ((ws ++ rest).take 16) 0 0 0 0 0 false = _
   rw [t]
 . dsimp only at a b
   subst a b
   cases dir <;> rfl
theorem sealM_take (l rest : List Int) : (sealM l ++ rest).take l.length = l /\ (sealM l ++ rest).take (l.length + 1) = sealM l := by
 unfold sealM
 constructor
 . rw [List.append_assoc,List.take_left]
 . have : l.length + 1 = (l ++ [moreM 0 (bytM l)]).length := by simp
   rw [this,List.take_left]
theorem dec_words {f : Frm} {r : Redo} (hm : mayR f r) (ht : RedT r) (rest : List Int) : decR (wordsR r ++ rest) = r := by
 have := redo_eq (mayB_k hm.2) hm.2 ht ([moreM 0 (bytM (plainR r))] ++ rest)
 rw [<- List.append_assoc] at this
 exact this
theorem good_words {f : Frm} {r : Redo} (hm : mayR f r) (ht : RedT r) (rest : List Int) : goodW f (wordsR r ++ rest) := by
 have h0 : (wordsR r ++ rest).getD 0 0 = headR r := rfl
 have hmw : manyW (wordsR r ++ rest) = (plainR r).length := by
   rw [plainR_len ht]
   unfold manyW
   rw [h0]
   unfold headR
   by_cases h : r.k = 1
   . rw [if_pos h,if_pos h]; rfl
   . rw [if_neg h,if_neg h]; rfl
 refine ⟨?_,by rw [dec_words hm ht]; exact hm, ?_⟩
 . rw [h0]
   unfold headR
   by_cases h : r.k = 1
   . rw [if_pos h]; exact .inl rfl
   . rw [if_neg h]
     refine .inr ⟨rfl, ?_⟩
     unfold wordsR sealM plainR bodyR
     rw [if_neg h]
     show dirI r.dir <= 1
     unfold dirI
     split <;> decide
 . rw [hmw]
   obtain ⟨e1,e2⟩ := sealM_take (plainR r) rest
   unfold wordsR
   rw [e1,e2]
theorem of_words {f : Frm} {r : Redo} (hm : mayR f r) (ht : RedT r) (rest : List Int) (hl : (wordsR r ++ rest).length = 64) : ofW f (wordsR r ++ rest) = (r,true,0) := by
 have h0 : (wordsR r ++ rest).getD 0 0 = headR r := rfl
 unfold ofW
 rw [if_neg (fun h => h hl),h0,if_neg (headR_ne r),if_pos (good_words hm ht rest),dec_words hm ht]
end Go.Proofs.YtobhofmicgmjfaaGreat
namespace Go.Proofs.YtobhofmicgmjfaaGreat
open Go Go.Am Go.Rec
def lyA (f : Frm) (k0 k1 c d e g : Int) : List AV := frmA f ++ [.int .u64 k0,.int .u64 k1,.int .i64 c,.int .i64 d,.int .i64 e,.int .i64 g]
def okL (f : Frm) (c d e g : Int) : Prop := okF f /\ 9 = c /\ 9 + f.i / 4 = d /\ 9 + f.i / 4 + f.r / 4 = e /\ 9 + f.i / 4 + f.r / 4 + 1 = g
instance (f : Frm) (c d e g : Int) : Decidable (okL f c d e g) := inferInstanceAs (Decidable (_ /\ _))
theorem lof_no {f : Frm} (h : ¬ okF f) (k0 k1 : Int) (H : Heap) : pcx (cbL tab) 84 [.agg (frmA f),.agg [.int .u64 k0,.int .u64 k1]] H = some (.plain (.tup [.agg lyz,.int .i64 2])) := by
 refine pcx_N rfl (pc_wp (fi := c84) rfl rfl (by simp [c84]) (by decide) ?_)
 unfold c84
 have e1 : lend (.agg (frmA f)) = .agg (frmA f) := rfl
 have e2 : lend (.agg [.int .u64 k0,.int .u64 k1]) = .agg [.int .u64 k0,.int .u64 k1] := rfl
 rw [List.map_cons,List.map_cons,List.map_nil,e1,e2]
 have i1 := fun H => lin_px f.b 32 2048 H
 have i2 := fun H => lin_px f.i 4 256 H
 have i3 := fun H => lin_px f.r 4 1024 H
 have i4 := fun H => lin_px f.t 1 40 H
 unfold frmA lyz
 by_cases c1 : 32 <= f.b /\ f.b <= 2048
 case neg =>
   rw [decide_eq_false c1] at i1
   clear h
   simp (disch := omega) only [wk,tupled,↓reduceIte,reduceEqDiff,reduceEq,reduceAdd,reduceCtorEq,i1,c1]
   rw [ret_scp_goto rfl]
   refine ret_again (by decide) (.inl rfl) ?_
   simp (disch := omega) only [wk,tupled,↓reduceIte,reduceEqDiff,reduceEq,reduceAdd,reduceCtorEq,purify,unownT,lend,unown,AV.hf,hfL,Tk.hf]
 rw [decide_eq_true c1] at i1
 by_cases c4 : 1 <= f.t /\ f.t <= 40
 case neg =>
   rw [decide_eq_false c4] at i4
   clear h
   simp (disch := omega) only [wk,tupled,↓reduceIte,reduceEqDiff,reduceEq,reduceAdd,reduceCtorEq,i1,i4]
   rw [ret_scp_goto rfl]
   refine ret_again (by decide) (.inl rfl) ?_
   simp (disch := omega) only [wk,tupled,↓reduceIte,reduceEqDiff,reduceEq,reduceAdd,reduceCtorEq,purify,unownT,lend,unown,AV.hf,hfL,Tk.hf]
 rw [decide_eq_true c4] at i4
 by_cases c2 : 4 <= f.i /\ f.i <= 256
 case neg =>
   rw [decide_eq_false c2] at i2
   clear h
   simp (disch := omega) only [wk,tupled,↓reduceIte,reduceEqDiff,reduceEq,reduceAdd,reduceCtorEq,i1,i4,i2]
   rw [ret_scp_goto rfl]
   refine ret_again (by decide) (.inl rfl) ?_
   simp (disch := omega) only [wk,tupled,↓reduceIte,reduceEqDiff,reduceEq,reduceAdd,reduceCtorEq,purify,unownT,lend,unown,AV.hf,hfL,Tk.hf]
 rw [decide_eq_true c2] at i2
 by_cases c5 : f.i % 4 = 0
 case neg =>
   clear h
   simp (disch := omega) only [wk,tupled,↓reduceIte,reduceEqDiff,reduceEq,reduceAdd,reduceCtorEq,i1,i4,i2,c5]
   rw [ret_scp_goto rfl]
   refine ret_again (by decide) (.inl rfl) ?_
   simp (disch := omega) only [wk,tupled,↓reduceIte,reduceEqDiff,reduceEq,reduceAdd,reduceCtorEq,purify,unownT,lend,unown,AV.hf,hfL,Tk.hf]
 by_cases c3 : 4 <= f.r /\ f.r <= 1024
 case neg =>
   rw [decide_eq_false c3] at i3
   clear h
   simp (disch := omega) only [wk,tupled,↓reduceIte,reduceEqDiff,reduceEq,reduceAdd,reduceCtorEq,i1,i4,i2,c5,i3]
   rw [ret_scp_goto rfl]
   refine ret_again (by decide) (.inl rfl) ?_
   simp (disch := omega) only [wk,tupled,↓reduceIte,reduceEqDiff,reduceEq,reduceAdd,reduceCtorEq,purify,unownT,lend,unown,AV.hf,hfL,Tk.hf]
 rw [decide_eq_true c3] at i3
 by_cases c8 : f.r % 4 = 0
 case neg =>
   clear h
   simp (disch := omega) only [wk,tupled,↓reduceIte,reduceEqDiff,reduceEq,reduceAdd,reduceCtorEq,i1,i4,i2,c5,i3,c8]
   rw [ret_scp_goto rfl]
   refine ret_again (by decide) (.inl rfl) ?_
   simp (disch := omega) only [wk,tupled,↓reduceIte,reduceEqDiff,reduceEq,reduceAdd,reduceCtorEq,purify,unownT,lend,unown,AV.hf,hfL,Tk.hf]
 have c11 : f.b - (9 + f.i / 4 + f.r / 4 + 1) < 4 := by
   unfold okF at h
   omega
 have q1 : 0 <= f.i := by omega
 have q2 : 0 <= f.r := by omega
 clear h
 simp (disch := omega) only [wk,tupled,↓reduceIte,reduceEqDiff,reduceEq,reduceAdd,reduceCtorEq,i1,i4,i2,c5,i3,c8,c11]
 rw [ret_scp_goto rfl]
 refine ret_again (by decide) (.inl rfl) ?_
 simp (disch := omega) only [wk,tupled,↓reduceIte,reduceEqDiff,reduceEq,reduceAdd,reduceCtorEq,purify,unownT,lend,unown,AV.hf,hfL,Tk.hf]
theorem cellsI {ks : List Nat} {xs ys : List AV} {k : IntKind} {a b : Int} : cellsEq (0 :: ks) (.int k a :: xs) (.int k b :: ys) = if a = b then cellsEq ks xs ys else some false := by
 have : cellEq 0 (.int k a) (.int k b) = some (a == b) := by show (if k = k then some (a == b) else none) = _; rw [if_pos rfl]
 rw [cellsEq,this]
 by_cases h : a = b
 . rw [if_pos h,h,beq_self_eq_true]
 . rw [if_neg h,beq_eq_false_iff_ne.2 h]
theorem lay_eqn {xo yo : X} {a b c d e f g h i j g' h' i' j' : Int} : binV .eql (.struct [0,0,0,0,0,0,0,0,0,0]) xo yo (.agg [.int .i64 a,.int .i64 b,.int .i64 c,.int .i64 d,.int .u64 e,.int .u64 f,.int .i64 g,.int .i64 h,.int .i64 i,.int .i64 j]) (.agg [.int .i64 a,.int .i64 b,.int .i64 c,.int .i64 d,.int .u64 e,.int .u64 f,.int .i64 g',.int .i64 h',.int .i64 i',.int .i64 j']) = some (.bool (decide (g = g' /\ h = h' /\ i = i' /\ j = j'))) := by
 show (cellsEq _ _ _).map _ = _
 simp only [cellsI,if_true]
 by_cases h1 : g = g'
 . by_cases h2 : h = h'
   . by_cases h3 : i = i'
     . by_cases h4 : j = j'
       . simp only [h1,h2,h3,h4,if_true,and_self,decide_true]; rfl
       . simp only [h1,h2,h3,h4,if_true,if_false,and_false,decide_false]; rfl
     . simp only [h1,h2,h3,if_true,if_false,and_false,false_and,decide_false]; rfl
   . simp only [h1,h2,if_true,if_false,and_false,false_and,decide_false]; rfl
 . simp only [h1,if_false,false_and,decide_false]; rfl
theorem lright_all (f : Frm) (k0 k1 c d e g : Int) (H : Heap) : pcx (cbL tab) 66 [.agg (lyA f k0 k1 c d e g)] H = some (.plain (.bool (decide (okL f c d e g)))) := by
 refine pcx_N rfl (pc_wp (fi := c66) rfl rfl (by simp [c66]) (by decide) ?_)
 unfold c66
 have e1 : lend (.agg (lyA f k0 k1 c d e g)) = .agg (lyA f k0 k1 c d e g) := rfl
 rw [List.map_cons,List.map_nil,e1]
 unfold okL lyA
 by_cases h : okF f
 . have lo := fun H => lof_px h k0 k1 H
   simp only [h,true_and]
   clear h
   unfold layA frmA at lo
   unfold frmA
   simp only [List.cons_append,List.nil_append] at lo ⊢
   simp (disch := omega) only [wk,tupled,↓reduceIte,reduceEqDiff,reduceEq,reduceAdd,reduceCtorEq,lo,lay_eqn,purify,unownT,lend,unown,AV.hf,hfL,Tk.hf]
 . have lo := fun H => lof_no h k0 k1 H
   simp only [h,false_and,decide_false]
   clear h
   unfold frmA lyz at lo
   unfold frmA
   simp only [List.cons_append,List.nil_append] at lo ⊢
   simp (disch := omega) only [wk,tupled,↓reduceIte,reduceEqDiff,reduceEq,reduceAdd,reduceCtorEq,lo,purify,unownT,lend,unown,AV.hf,hfL,Tk.hf]
theorem rright_all (f : Frm) (k0 k1 c d e g : Int) (H : Heap) : pcx (cbL tab) 22 [.agg (lyA f k0 k1 c d e g)] H = some (.plain (.bool (decide (okL f c d e g)))) := by
 refine pcx_N rfl (pc_wp (fi := c22) rfl rfl (by simp [c22]) (by decide) ?_)
 unfold c22
 have e1 : lend (.agg (lyA f k0 k1 c d e g)) = .agg (lyA f k0 k1 c d e g) := rfl
 rw [List.map_cons,List.map_nil,e1]
 unfold okL lyA
 have lo := fun H => rof_px f k0 k1 H
 by_cases h : okF f
 . simp only [h,true_and,if_true] at lo ⊢
   clear h
   unfold layA frmA at lo
   unfold frmA
   simp only [List.cons_append,List.nil_append] at lo ⊢
   simp (disch := omega) only [wk,tupled,↓reduceIte,reduceEqDiff,reduceEq,reduceAdd,reduceCtorEq,lo,lay_eqn,purify,unownT,lend,unown,AV.hf,hfL,Tk.hf]
 . simp only [h,false_and,decide_false,if_false] at lo ⊢
   clear h
   unfold frmA lyz at lo
   unfold frmA
   simp only [List.cons_append,List.nil_append] at lo ⊢
   simp (disch := omega) only [wk,tupled,↓reduceIte,reduceEqDiff,reduceEq,reduceAdd,reduceCtorEq,lo,purify,unownT,lend,unown,AV.hf,hfL,Tk.hf]
theorem super_no {f : Frm} {c d e g : Int} (h : ¬ okL f c d e g) (k0 k1 : Int) (H : Heap) : pcx (cbL tab) 48 [.agg (lyA f k0 k1 c d e g)] H = some (.plain (.tup [.sl 0 0 [] .z,.int .i64 2])) := by
 have hr := fun H => lright_all f k0 k1 c d e g H
 rw [decide_eq_false h] at hr
 clear h
 refine pcx_N rfl (pc_wp (fi := c48) rfl rfl (by simp [c48]) (by decide) ?_)
 unfold c48
 have e1 : lend (.agg (lyA f k0 k1 c d e g)) = .agg (lyA f k0 k1 c d e g) := rfl
 rw [List.map_cons,List.map_nil,e1]
 unfold lyA frmA at hr ⊢
 simp only [List.cons_append,List.nil_append] at hr ⊢
 simp (disch := omega) only [wk,tupled,↓reduceIte,reduceEqDiff,reduceEq,reduceAdd,reduceCtorEq,hr,purify,unownT,lend,unown,AV.hf,hfL,Tk.hf]
theorem ly_ok {f : Frm} {c d e g : Int} (h : okL f c d e g) (k0 k1 : Int) : lyA f k0 k1 c d e g = layA f k0 k1 := by
 obtain ⟨_,rfl,rfl,rfl,rfl⟩ := h
 rfl
end Go.Proofs.YtobhofmicgmjfaaGreat
namespace Go.Proofs.YtobhofmicgmjfaaGreat
open Go Go.Am Go.Rec Go.Ino
def panJ (e : Int) : PR := .pan [(.iface 35 (.int .i64 e),false)]
theorem jmust_t (e : Int) (H : Heap) : pcx (cbL tab) 28 [.bool true,.int .i64 e] H = some (.plain (.tup [])) := by
 refine pcx_N rfl (pc_wp (fi := c28) rfl rfl (by simp [c28]) (by decide) ?_)
 unfold c28
 have lb : lend (.bool true) = .bool true := rfl
 rw [List.map_cons,List.map_cons,List.map_nil,lb,lend_int]
 simp (disch := omega) only [wk,tupled,↓reduceIte,reduceEqDiff,reduceEq,reduceAdd,reduceCtorEq,purify,unownT,lend,unown,AV.hf,hfL]
theorem jmust_f (e : Int) (H : Heap) : pcx (cbL tab) 28 [.bool false,.int .i64 e] H = some (panJ e) := by
 refine pcx_N rfl (pc_wp (fi := c28) rfl rfl (by simp [c28]) (by decide) ?_)
 unfold c28 panJ
 have lb : lend (.bool false) = .bool false := rfl
 rw [List.map_cons,List.map_cons,List.map_nil,lb,lend_int]
 simp (disch := omega) only [wk,tupled,↓reduceIte,reduceEqDiff,reduceEq,reduceAdd,reduceCtorEq,purify,unownT,lend,unown,AV.hf,hfL]
theorem jcaught_ret (a : Nat) (f : FuncId) (caps : List AV) (H : Heap) : leaveA tab (cbL tab) [.call 25 [.ptr a 0,.fn f caps]] .returning H = some (.returning,H) := by
 rfl
theorem jcaught_pan (a : Nat) (f : FuncId) (caps : List AV) (H H1 : Heap) (e : Int) (y v : AV) (h : enterA (cbL tab) f caps H = some (.ret v,H1)) (hy : H1[a]? = some (.cells [y])) :
   leaveA tab (cbL tab) [.call 25 [.ptr a 0,.fn f caps]] (.panicking [(.iface 35 (.int .i64 e),false)]) H = some (.returning,H1.set a (.cells [.int .i64 e])) := by
 have ht : tab 25 = some c25 := rfl
 simp [leaveA,ht,bodyD,c25,acodeD,aregionD,hasRecov,acode,aregion,aval,aact,putD,X.ev,fr0,wantedA,binV,eqV,unV,h,hy,AV.flat,allOne,AV.one,resA,settleA,isNili]
theorem jin_px (n lo hi : Int) (H : Heap) : pcx (cbL tab) 54 [.int .i64 n,.int .i64 lo,.int .i64 hi] H = some (.plain (.bool (decide (lo <= n /\ n <= hi)))) := by
 refine pcx_N rfl (pc_wp (fi := c54) rfl rfl (by simp [c54]) (by decide) ?_)
 unfold c54
 rw [List.map_cons,List.map_cons,List.map_cons,List.map_nil,lend_int,lend_int,lend_int]
 by_cases h1 : lo <= n <;> by_cases h2 : n <= hi <;> simp (disch := omega) only [wk,tupled,↓reduceIte,reduceEqDiff,reduceEq,reduceAdd,reduceCtorEq,h1,h2,purify,unownT,lend,unown,AV.hf,and_false,false_and]
theorem jlaid_ok {f : Frm} (h : okF f) {k0 k1 : Int} (h0 : U64 k0) (h1 : U64 k1) (H : Heap) : pcx (cbL tab) 27 [.agg (layA f k0 k1)] H = some (.plain (.tup [])) := by
 obtain ⟨v,sp⟩ := super_px h h0 h1
 clear h
 refine pcx_N rfl (pc_wp (fi := c27) rfl rfl (by simp [c27]) (by decide) ?_)
 unfold c27
 have e1 : lend (.agg (layA f k0 k1)) = .agg (layA f k0 k1) := rfl
 rw [List.map_cons,List.map_nil,e1]
 have mt := fun H => jmust_t 2 H
 unfold layA frmA at sp ⊢
 simp only [List.cons_append,List.nil_append] at sp ⊢
 simp (disch := omega) only [wk,tupled,↓reduceIte,reduceEqDiff,reduceEq,reduceAdd,reduceCtorEq,sp,mt,purify,unownT,lend,unown,AV.hf,hfL,Tk.hf]
theorem jlaid_no {f : Frm} {c d e g : Int} (h : ¬ okL f c d e g) (k0 k1 : Int) (H : Heap) : pcx (cbL tab) 27 [.agg (lyA f k0 k1 c d e g)] H = some (panJ 2) := by
 have sp := fun H => super_no h k0 k1 H
 clear h
 refine pcx_N rfl (pc_wp (fi := c27) rfl rfl (by simp [c27]) (by decide) ?_)
 unfold c27
 have e1 : lend (.agg (lyA f k0 k1 c d e g)) = .agg (lyA f k0 k1 c d e g) := rfl
 rw [List.map_cons,List.map_nil,e1]
 have mf := fun H => jmust_f 2 H
 have pj : ∀ H : Heap,purify (some (.pan [(.iface 35 (.int .i64 2),false)],H)) = some (panJ 2) := fun H => rfl
 unfold panJ at mf
 unfold lyA frmA at sp ⊢
 simp only [List.cons_append,List.nil_append] at sp ⊢
 simp (disch := omega) only [wk,tupled,↓reduceIte,reduceEqDiff,reduceEq,reduceAdd,reduceCtorEq,sp,mf,pj]
def kd1 : AV := .agg [.int .i64 17,.fn 49 [],.fn 51 [],.fn 52 []]
def kd2 : AV := .agg [.int .i64 7,.fn 53 [],.fn 55 [],.fn 56 []]
def jkE : List (AV × AV) := [(.int .i64 1,kd1),(.int .i64 2,kd2)]
theorem jkinds_px (H : Heap) : pcx (cbL tab) 29 [] H = some (.fmap jkE) := by
 refine pcx_N rfl (pc_wp (fi := c29) rfl rfl (by simp [c29]) (by decide) ?_)
 unfold c29 jkE kd1 kd2
 have b21 : ((2 : Int) == 1) = false := rfl
 simp (disch := omega) only [wk,tupled,↓reduceIte,reduceEqDiff,reduceEq,reduceAdd,reduceCtorEq,findA,cellEq,b21,purify,hfL,AV.hf]
theorem jfind1 : findA 0 (.int .i64 1) jkE 0 = some (some (0,kd1)) := rfl
theorem jfind2 : findA 0 (.int .i64 2) jkE 0 = some (some (1,kd2)) := rfl
theorem jfind_no {k : Int} (h1 : k ≠ 1) (h2 : k ≠ 2) : findA 0 (.int .i64 k) jkE 0 = some none := by
 have b1 : (k == 1) = false := by simp [h1]
 have b2 : (k == 2) = false := by simp [h2]
 simp [findA,jkE,cellEq,b1,b2]
theorem cellsU {ks : List Nat} {xs ys : List AV} : ∀ (a b : List Int),a.length = b.length -> cellsEq (List.replicate a.length 0 ++ ks) (encs u64A a ++ xs) (encs u64A b ++ ys) = if a = b then cellsEq ks xs ys else some false
 | [],[],_ => rfl
 | [],_ :: _,h => by simp at h
 | _ :: _,[],h => by simp at h
 | x :: a,y :: b,h => by
   have ih := cellsU (ks := ks) (xs := xs) (ys := ys) a b (by simpa using h)
   rw [List.length_cons,List.replicate_succ]
   show cellsEq (0 :: (List.replicate a.length 0 ++ ks)) (.int .u64 x :: (encs u64A a ++ xs)) (.int .u64 y :: (encs u64A b ++ ys)) = _
   rw [cellsI,ih]
   by_cases hxy : x = y
   . simp [hxy]
   . simp [hxy]
def redK : List Nat := [0,0,0,0,0,0,0,0,0,0,0,0,0,0,0,0,0,0,0,0,0,0,0,1]
theorem red_eqc {a b : Redo} (ha : a.ws.length = 16) (hb : b.ws.length = 16) : cellsEq redK (redA a) (redA b) = some (decide (a = b)) := by
 obtain ⟨k,i,ws,fr,to,fk,tk,rc,dir⟩ := a
 obtain ⟨k',i',ws',fr',to',fk',tk',rc',dir'⟩ := b
 dsimp only at ha hb
 have e : redK = 0 :: 0 :: (List.replicate ws.length 0 ++ [0,0,0,0,0,1]) := by rw [ha]; rfl
 have eb : ∀ x y : Bool,cellsEq [1] [.bool x] [.bool y] = some (x == y) := fun x y => by cases x <;> cases y <;> rfl
 unfold redA
 rw [e,cellsI,cellsI,cellsU _ _ (by rw [ha,hb]),cellsI,cellsI,cellsI,cellsI,cellsI,eb]
 simp only [Redo.mk.injEq]
 by_cases h1 : k = k' <;> by_cases h2 : i = i' <;> by_cases h3 : ws = ws' <;> by_cases h4 : fr = fr' <;> by_cases h5 : to = to' <;> by_cases h6 : fk = fk' <;> by_cases h7 : tk = tk' <;> by_cases h8 : rc = rc' <;> simp [h1,h2,h3,h4,h5,h6,h7,h8] <;> cases dir <;> cases dir' <;> rfl
theorem red_eqv {xo yo : X} {a b : Redo} (ha : a.ws.length = 16) (hb : b.ws.length = 16) : binV .eql (.struct redK) xo yo (.agg (redA a)) (.agg (redA b)) = some (.bool (decide (a = b))) := by
 show (cellsEq _ _ _).map _ = _
 rw [red_eqc ha hb]
 rfl
def undA (f : Frm) (r : Redo) : AV := .agg (redA r ++ frmA f)
theorem hf_redA (r : Redo) : hfL (redA r) = true := by
 unfold redA
 simp [hfL,hfL_append,hf_u64A,AV.hf]
theorem lend_redA (r : Redo) : (redA r).map unown = redA r := by
 unfold redA
 rw [List.map_cons,List.map_cons,List.map_append,unown_encsU]
 rfl
theorem lend_und (f : Frm) (r : Redo) : lend (undA f r) = undA f r := by
 show AV.agg ((redA r ++ frmA f).map unown) = _
 rw [List.map_append,lend_redA]
 rfl
theorem hf_und (f : Frm) (r : Redo) : (undA f r).hf = true := by
 show hfL (redA r ++ frmA f) = true
 rw [hfL_append,hf_redA]
 rfl
theorem sixteen {l : List Int} (h : l.length = 16) : ∃ w0 w1 w2 w3 w4 w5 w6 w7 w8 w9 w10 w11 w12 w13 w14 w15,l = [w0,w1,w2,w3,w4,w5,w6,w7,w8,w9,w10,w11,w12,w13,w14,w15] := by
 match l,h with
 | [w0,w1,w2,w3,w4,w5,w6,w7,w8,w9,w10,w11,w12,w13,w14,w15],_ => exact ⟨_,_,_,_,_,_,_,_,_,_,_,_,_,_,_,_,rfl⟩
def bareR (r : Redo) : Redo := ⟨r.k,r.i,r.ws,0,0,0,0,0,false⟩
theorem ofIV_eq (n : Ino) (e : Int) : ofIV n e = .tup [inoA n (mapV n.map),.int .i64 e] := rfl
theorem jmay1_px (f : Frm) (r : Redo) (ht : RedT r) (H : Heap) : pcx (cbL tab) 49 [undA f r] H = some (.plain (.bool (decide (fileW r.ws = true /\ r = bareR r)))) := by
 have hq := fun xo yo => red_eqv (xo := xo) (yo := yo) (a := r) (b := bareR r) ht.wl ht.wl
 obtain ⟨w0,w1,w2,w3,w4,w5,w6,w7,w8,w9,w10,w11,w12,w13,w14,w15,hw⟩ := sixteen ht.wl
 have hu := ht.wu
 rw [hw] at hu
 have wok : WOk w0 w1 w2 w3 [w4,w5,w6,w7,w8,w9,w10,w11,w12,w13,w14,w15] [] :=
   ⟨rfl,hu _ (by simp),hu _ (by simp),hu _ (by simp),hu _ (by simp),fun x hx => hu x (List.mem_cons_of_mem _ (List.mem_cons_of_mem _ (List.mem_cons_of_mem _ (List.mem_cons_of_mem _ hx)))),rfl⟩
 refine pcx_N rfl (pc_wp (fi := c49) rfl ?_ (by simp [c49]) (by decide) ?_)
 . simp only [pcOn,List.map_cons,List.map_nil,hfL,hf_lend_sl,hf_lend_int,hf_lend_bool,hf_lend_str,hfL_append,Bool.and_self,Bool.and_true,Bool.true_and,c49,lend_und,hf_und]
 rw [List.map_cons,List.map_nil,lend_und]
 have fw : fileW r.ws = decide ((ofI w0 w1 w2 w3 [w4,w5,w6,w7,w8,w9,w10,w11,w12,w13,w14,w15]).2 = 0 /\ (ofI w0 w1 w2 w3 [w4,w5,w6,w7,w8,w9,w10,w11,w12,w13,w14,w15]).1.kind = 1) := by rw [hw]; rfl
 have op := fun tk H => xofI_px w0 w1 w2 w3 [w4,w5,w6,w7,w8,w9,w10,w11,w12,w13,w14,w15] _ tk H wok
 generalize ofI w0 w1 w2 w3 [w4,w5,w6,w7,w8,w9,w10,w11,w12,w13,w14,w15] = O at fw op
 obtain ⟨n,e⟩ := O
 dsimp only at fw op
 rw [ofIV_eq] at op
 have m1 := (MapR.of n.map).one.1
 have m2 := (MapR.of n.map).one.2
 generalize mapV n.map = M at op m1 m2
 rw [fw]
 unfold wlit at op
 unfold c49 undA redA frmA
 have r0 : r = ⟨r.k,r.i,r.ws,r.fr,r.to,r.fk,r.tk,r.rc,r.dir⟩ := rfl
 unfold redA bareR redK at hq
 rw [hw] at hq ⊢
 simp only [encs_cons,encs_nil,u64A,List.cons_append,List.nil_append,frmA] at op hq ⊢
 unfold inoA at op
 by_cases h1 : e = 0
 . by_cases h2 : n.kind = 1
   . simp (disch := omega) only [wk,tupled,↓reduceIte,reduceEqDiff,reduceEq,reduceAdd,reduceCtorEq,op,m1,m2,h1,h2,hq,purify,unownT,lend,unown,AV.hf,hfL,Tk.hf]
     unfold bareR
     rw [hw]
   . simp (disch := omega) only [wk,tupled,↓reduceIte,reduceEqDiff,reduceEq,reduceAdd,reduceCtorEq,op,m1,m2,h1,h2,hq,purify,unownT,lend,unown,AV.hf,hfL,Tk.hf]
     simp
 . simp (disch := omega) only [wk,tupled,↓reduceIte,reduceEqDiff,reduceEq,reduceAdd,reduceCtorEq,op,m1,m2,h1,hq,purify,unownT,lend,unown,AV.hf,hfL,Tk.hf]
   simp
theorem jmay2_px (f : Frm) (r : Redo) (ht : RedT r) (H : Heap) : pcx (cbL tab) 53 [undA f r] H = some (.plain (.bool (decide (r.ws = ws0 /\ (1 <= r.fr /\ r.fr <= f.i) /\ (1 <= r.to /\ r.to <= f.i) /\ (1 <= r.rc /\ r.rc <= f.r) /\ (r.fr ≠ r.to ∨ r.fk ≠ r.tk))))) := by
 have hz := ceq_u r.ws ws0 (by rw [ht.wl]; rfl)
 obtain ⟨w0,w1,w2,w3,w4,w5,w6,w7,w8,w9,w10,w11,w12,w13,w14,w15,hw⟩ := sixteen ht.wl
 have hq : ∀ xo yo,binV .eql (.struct [0,0,0,0,0,0,0,0,0,0,0,0,0,0,0,0]) xo yo (.agg [.int .u64 w0,.int .u64 w1,.int .u64 w2,.int .u64 w3,.int .u64 w4,.int .u64 w5,.int .u64 w6,.int .u64 w7,.int .u64 w8,.int .u64 w9,.int .u64 w10,.int .u64 w11,.int .u64 w12,.int .u64 w13,.int .u64 w14,.int .u64 w15])
     (.agg [.int .u64 0,.int .u64 0,.int .u64 0,.int .u64 0,.int .u64 0,.int .u64 0,.int .u64 0,.int .u64 0,.int .u64 0,.int .u64 0,.int .u64 0,.int .u64 0,.int .u64 0,.int .u64 0,.int .u64 0,.int .u64 0]) = some (.bool (decide (r.ws = ws0))) := by
   intro xo yo
   rw [hw] at hz ⊢
   show (cellsEq _ _ _).map _ = _
   have hz' : cellsEq [0,0,0,0,0,0,0,0,0,0,0,0,0,0,0,0] [.int .u64 w0,.int .u64 w1,.int .u64 w2,.int .u64 w3,.int .u64 w4,.int .u64 w5,.int .u64 w6,.int .u64 w7,.int .u64 w8,.int .u64 w9,.int .u64 w10,.int .u64 w11,.int .u64 w12,.int .u64 w13,.int .u64 w14,.int .u64 w15]
     [.int .u64 0,.int .u64 0,.int .u64 0,.int .u64 0,.int .u64 0,.int .u64 0,.int .u64 0,.int .u64 0,.int .u64 0,.int .u64 0,.int .u64 0,.int .u64 0,.int .u64 0,.int .u64 0,.int .u64 0,.int .u64 0] = _ := hz
   rw [hz']
   rfl
 refine pcx_N rfl (pc_wp (fi := c53) rfl ?_ (by simp [c53]) (by decide) ?_)
 . simp only [pcOn,List.map_cons,List.map_nil,hfL,hf_lend_sl,hf_lend_int,hf_lend_bool,hf_lend_str,hfL_append,Bool.and_self,Bool.and_true,Bool.true_and,c53,lend_und,hf_und]
 rw [List.map_cons,List.map_nil,lend_und]
 have i1 := fun H => jin_px r.fr 1 f.i H
 have i2 := fun H => jin_px r.to 1 f.i H
 have i3 := fun H => jin_px r.rc 1 f.r H
 unfold c53 undA redA frmA
 have hw2 : encs u64A r.ws = [.int .u64 w0,.int .u64 w1,.int .u64 w2,.int .u64 w3,.int .u64 w4,.int .u64 w5,.int .u64 w6,.int .u64 w7,.int .u64 w8,.int .u64 w9,.int .u64 w10,.int .u64 w11,.int .u64 w12,.int .u64 w13,.int .u64 w14,.int .u64 w15] := by rw [hw]; rfl
 have rp : List.replicate 16 (AV.int .u64 0) = [.int .u64 0,.int .u64 0,.int .u64 0,.int .u64 0,.int .u64 0,.int .u64 0,.int .u64 0,.int .u64 0,.int .u64 0,.int .u64 0,.int .u64 0,.int .u64 0,.int .u64 0,.int .u64 0,.int .u64 0,.int .u64 0] := rfl
 rw [hw2,rp]
 simp only [List.cons_append,List.nil_append]
 clear hz hw hw2 rp
 by_cases ca : r.ws = ws0
 case neg =>
   rw [decide_eq_false ca] at hq
   have e : decide (r.ws = ws0 /\ (1 <= r.fr /\ r.fr <= f.i) /\ (1 <= r.to /\ r.to <= f.i) /\ (1 <= r.rc /\ r.rc <= f.r) /\ (r.fr ≠ r.to ∨ r.fk ≠ r.tk)) = false := decide_eq_false (fun h => ca h.1)
   rw [e]
   clear e ca
   simp (disch := omega) only [wk,tupled,↓reduceIte,reduceEqDiff,reduceEq,reduceAdd,reduceCtorEq,hq,runG_un,purify,unownT,lend,unown,AV.hf,hfL,Tk.hf]
 rw [decide_eq_true ca] at hq
 by_cases cb : 1 <= r.fr /\ r.fr <= f.i
 case neg =>
   rw [decide_eq_false cb] at i1
   have e : decide (r.ws = ws0 /\ (1 <= r.fr /\ r.fr <= f.i) /\ (1 <= r.to /\ r.to <= f.i) /\ (1 <= r.rc /\ r.rc <= f.r) /\ (r.fr ≠ r.to ∨ r.fk ≠ r.tk)) = false := decide_eq_false (fun h => cb h.2.1)
   rw [e]
   clear e cb
   simp (disch := omega) only [wk,tupled,↓reduceIte,reduceEqDiff,reduceEq,reduceAdd,reduceCtorEq,hq,runG_un,i1,purify,unownT,lend,unown,AV.hf,hfL,Tk.hf]
 rw [decide_eq_true cb] at i1
 by_cases cc : 1 <= r.to /\ r.to <= f.i
 case neg =>
   rw [decide_eq_false cc] at i2
   have e : decide (r.ws = ws0 /\ (1 <= r.fr /\ r.fr <= f.i) /\ (1 <= r.to /\ r.to <= f.i) /\ (1 <= r.rc /\ r.rc <= f.r) /\ (r.fr ≠ r.to ∨ r.fk ≠ r.tk)) = false := decide_eq_false (fun h => cc h.2.2.1)
   rw [e]
   clear e cc
   simp (disch := omega) only [wk,tupled,↓reduceIte,reduceEqDiff,reduceEq,reduceAdd,reduceCtorEq,hq,runG_un,i1,i2,purify,unownT,lend,unown,AV.hf,hfL,Tk.hf]
 rw [decide_eq_true cc] at i2
 by_cases cd : 1 <= r.rc /\ r.rc <= f.r
 case neg =>
   rw [decide_eq_false cd] at i3
   have e : decide (r.ws = ws0 /\ (1 <= r.fr /\ r.fr <= f.i) /\ (1 <= r.to /\ r.to <= f.i) /\ (1 <= r.rc /\ r.rc <= f.r) /\ (r.fr ≠ r.to ∨ r.fk ≠ r.tk)) = false := decide_eq_false (fun h => cd h.2.2.2.1)
   rw [e]
   clear e cd
   simp (disch := omega) only [wk,tupled,↓reduceIte,reduceEqDiff,reduceEq,reduceAdd,reduceCtorEq,hq,runG_un,i1,i2,i3,purify,unownT,lend,unown,AV.hf,hfL,Tk.hf]
 rw [decide_eq_true cd] at i3
 have e : decide (r.ws = ws0 /\ (1 <= r.fr /\ r.fr <= f.i) /\ (1 <= r.to /\ r.to <= f.i) /\ (1 <= r.rc /\ r.rc <= f.r) /\ (r.fr ≠ r.to ∨ r.fk ≠ r.tk)) = decide (r.fr ≠ r.to ∨ r.fk ≠ r.tk) := by simp only [ca,cb,cc,cd,true_and,and_self]
 rw [e]
 clear e ca cb cc cd
 by_cases g1 : r.fr = r.to
 . by_cases g2 : r.fk = r.tk
   . have e : decide (r.fr ≠ r.to ∨ r.fk ≠ r.tk) = false := decide_eq_false (by simp [g1,g2])
     rw [e]
     simp (disch := omega) only [wk,tupled,↓reduceIte,reduceEqDiff,reduceEq,reduceAdd,reduceCtorEq,hq,runG_un,i1,i2,i3,g1,g2,purify,unownT,lend,unown,AV.hf,hfL,Tk.hf]
   . have e : decide (r.fr ≠ r.to ∨ r.fk ≠ r.tk) = true := decide_eq_true (.inr g2)
     rw [e]
     simp (disch := omega) only [wk,tupled,↓reduceIte,reduceEqDiff,reduceEq,reduceAdd,reduceCtorEq,hq,runG_un,i1,i2,i3,g1,g2,purify,unownT,lend,unown,AV.hf,hfL,Tk.hf]
 . have e : decide (r.fr ≠ r.to ∨ r.fk ≠ r.tk) = true := decide_eq_true (.inl g1)
   rw [e]
   simp (disch := omega) only [wk,tupled,↓reduceIte,reduceEqDiff,reduceEq,reduceAdd,reduceCtorEq,hq,runG_un,i1,i2,i3,g1,purify,unownT,lend,unown,AV.hf,hfL,Tk.hf]
theorem app_e (a b : List Int) (ha : a.length <= 1000) (hb : b.length <= 1000) (hb0 : b ≠ []) (tk : Tk) (H : Heap) :
   appV 1 8 (.sl 1 a.length (encs u64A a) .e) (.sl 1 b.length (encs u64A b) tk) H = some (.val (.sl 1 (a ++ b).length (encs u64A (a ++ b)) (.own H.length)),H ++ [.tok 1]) := by
 have h0 : ¬ b.length = 0 := fun h => hb0 (List.eq_nil_of_length_eq_zero h)
 have t : (encs u64A b).take (b.length * 1) = encs u64A b := List.take_of_length_le (by rw [lenU]; omega)
 have c1 : (a.length + b.length) * 8 <= 70368744177664 := by omega
 have c2 : a.length + b.length <= 70368744177664 := by omega
 have c3 : b.length * 1 <= (encs u64A b).length := by rw [lenU]; omega
 have c4 : (encs u64A a).length = a.length * 1 := by rw [lenU]; omega
 simp only [appV,c1,c2,c3,c4,t,one_u64A,h0,Nat.one_pos,and_self,if_true,if_false,encs_append,List.length_append]
theorem own_tok (H : Heap) (l : List Int) (h : l ≠ []) : Own (H ++ [AObj.tok 1]) 1 (.sl 1 l.length (encs u64A l) (.own H.length)) l.length (encs u64A l) :=
 .inr ⟨fun e => h (List.eq_nil_of_length_eq_zero e),_,rfl,by simp⟩
theorem row28 (a0 a1 a2 a3 a4 a5 a6 a7 a8 a9 a10 a11 a12 a13 a14 a15 a16 a17 a18 a19 a20 a21 a22 a23 a24 a25 a26 a27 : AV) : rowOf [AObj.cells [a0,a1,a2,a3,a4,a5,a6,a7,a8,a9,a10,a11,a12,a13,a14,a15,a16,a17,a18,a19,a20,a21,a22,a23,a24,a25,a26,a27]] (.msl 1 0 2 16) = .sl 1 16 [a2,a3,a4,a5,a6,a7,a8,a9,a10,a11,a12,a13,a14,a15,a16,a17] .ro := rfl
theorem jlay1_px (f : Frm) (r : Redo) (ht : RedT r) (h1 : 1 <= r.i) (h2 : r.i <= 256) (H : Heap) : pcx (cbL tab) 51 [undA f r] H = some (prRow 1 u64A (r.i :: r.ws)) := by
 have ap := fun tk H => app_e [r.i] r.ws (by simp) (by have := ht.wl; omega) (by intro h; have := ht.wl; rw [h] at this; simp at this) tk H
 have lw := ht.wl
 have el : ([r.i] ++ r.ws).length = 17 := by simp [lw]
 have ol := fun H => own_tok H (r.i :: r.ws) (by simp)
 obtain ⟨w0,w1,w2,w3,w4,w5,w6,w7,w8,w9,w10,w11,w12,w13,w14,w15,hw⟩ := sixteen ht.wl
 refine pcx_N rfl (pc_wp (fi := c51) rfl ?_ (by simp [c51]) (by decide) ?_)
 . simp only [pcOn,List.map_cons,List.map_nil,hfL,hf_lend_sl,hf_lend_int,hf_lend_bool,hf_lend_str,hfL_append,Bool.and_self,Bool.and_true,Bool.true_and,c51,lend_und,hf_und]
 rw [List.map_cons,List.map_nil,lend_und]
 have v1 : IntKind.u64.wrap r.i = r.i := wrap_u64 (by omega) (by omega)
 have hw2 : encs u64A r.ws = [.int .u64 w0,.int .u64 w1,.int .u64 w2,.int .u64 w3,.int .u64 w4,.int .u64 w5,.int .u64 w6,.int .u64 w7,.int .u64 w8,.int .u64 w9,.int .u64 w10,.int .u64 w11,.int .u64 w12,.int .u64 w13,.int .u64 w14,.int .u64 w15] := by rw [hw]; rfl
 have pr : ∀ H,purify (some (.ret (.sl 1 17 (encs u64A ([r.i] ++ r.ws)) (.own H.length)),H ++ [AObj.tok 1])) = some (prRow 1 u64A (r.i :: r.ws)) := by
   intro H
   have := ol H
   have e17 : (r.i :: r.ws).length = 17 := by simp [lw]
   rw [e17] at this
   exact purify_row (fun _ => rfl) (l := r.i :: r.ws) (by rw [e17]; exact this) (fun e => by cases e)
 rw [lw,el,hw2] at ap
 unfold c51 undA redA frmA
 rw [hw2]
 have es : encs u64A [r.i] = [.int .u64 r.i] := rfl
 rw [es] at ap
 simp only [List.cons_append,List.nil_append,List.length_cons,List.length_nil,Nat.zero_add] at ap ⊢
 simp (disch := omega) only [wk,tupled,↓reduceIte,reduceEqDiff,reduceEq,reduceAdd,reduceCtorEq,v1,row28,ap]
 exact pr [_]
theorem jlay2_px (f : Frm) (r : Redo) (h1 : 1 <= r.i /\ r.i <= 256) (h2 : 1 <= r.fr /\ r.fr <= 256) (h3 : 1 <= r.to /\ r.to <= 256) (h4 : 1 <= r.rc /\ r.rc <= 1024) (ht : RedT r) (H : Heap) :
   pcx (cbL tab) 55 [undA f r] H = some (.plain (.sl 1 7 (encs u64A [r.fr,r.fk,r.to,r.tk,r.rc,r.i,dirI r.dir]) .ro)) := by
 obtain ⟨w0,w1,w2,w3,w4,w5,w6,w7,w8,w9,w10,w11,w12,w13,w14,w15,hw⟩ := sixteen ht.wl
 refine pcx_N rfl (pc_wp (fi := c55) rfl ?_ (by simp [c55]) (by decide) ?_)
 . simp only [pcOn,List.map_cons,List.map_nil,hfL,hf_lend_sl,hf_lend_int,hf_lend_bool,hf_lend_str,hfL_append,Bool.and_self,Bool.and_true,Bool.true_and,c55,lend_und,hf_und]
 rw [List.map_cons,List.map_nil,lend_und]
 have v1 : IntKind.u64.wrap r.i = r.i := wrap_u64 (by omega) (by omega)
 have v2 : IntKind.u64.wrap r.fr = r.fr := wrap_u64 (by omega) (by omega)
 have v3 : IntKind.u64.wrap r.to = r.to := wrap_u64 (by omega) (by omega)
 have v4 : IntKind.u64.wrap r.rc = r.rc := wrap_u64 (by omega) (by omega)
 have hw2 : encs u64A r.ws = [.int .u64 w0,.int .u64 w1,.int .u64 w2,.int .u64 w3,.int .u64 w4,.int .u64 w5,.int .u64 w6,.int .u64 w7,.int .u64 w8,.int .u64 w9,.int .u64 w10,.int .u64 w11,.int .u64 w12,.int .u64 w13,.int .u64 w14,.int .u64 w15] := by rw [hw]; rfl
 unfold c55 undA redA frmA
 rw [hw2]
 have es : encs u64A [r.fr,r.fk,r.to,r.tk,r.rc,r.i,dirI r.dir] = [.int .u64 r.fr,.int .u64 r.fk,.int .u64 r.to,.int .u64 r.tk,.int .u64 r.rc,.int .u64 r.i,.int .u64 (dirI r.dir)] := rfl
 rw [es]
 simp only [List.cons_append,List.nil_append]
 cases hd : r.dir
 . have e : dirI false = 0 := rfl
   simp (disch := omega) only [wk,tupled,↓reduceIte,reduceEqDiff,reduceEq,reduceAdd,reduceCtorEq,v1,v2,v3,v4,e,purify,unownT,lend,unown,AV.hf,hfL,Tk.hf]
 . have e : dirI true = 1 := rfl
   simp (disch := omega) only [wk,tupled,↓reduceIte,reduceEqDiff,reduceEq,reduceAdd,reduceCtorEq,v1,v2,v3,v4,e,purify,unownT,lend,unown,AV.hf,hfL,Tk.hf]
theorem mayB_1 {f : Frm} {r : Redo} (h : r.k = 1) : mayB f r ↔ fileW r.ws = true /\ r = bareR r := by
 obtain ⟨k,i,ws,fr,to,fk,tk,rc,dir⟩ := r
 dsimp only at h
 subst h
 unfold mayB bareR
 simp only [Redo.mk.injEq,true_and]
 constructor
 . rintro (⟨a,h⟩ | h)
   . exact ⟨a,by simpa using h⟩
   . omega
 . rintro ⟨a,h⟩
   exact .inl ⟨a,by simpa using h⟩
theorem mayB_2 {f : Frm} {r : Redo} (h : r.k = 2) : mayB f r ↔ r.ws = ws0 /\ (1 <= r.fr /\ r.fr <= f.i) /\ (1 <= r.to /\ r.to <= f.i) /\ (1 <= r.rc /\ r.rc <= f.r) /\ (r.fr ≠ r.to ∨ r.fk ≠ r.tk) := by
 unfold mayB
 constructor
 . rintro (h1 | h1)
   . omega
   . exact h1.2
 . exact fun h1 => .inr ⟨h,h1⟩
def kdR (r : Redo) : AV := if r.k = 1 then kd1 else kd2
theorem red_lit {r : Redo} (ht : RedT r) : ∃ w0 w1 w2 w3 w4 w5 w6 w7 w8 w9 w10 w11 w12 w13 w14 w15,redA r = [.int .i64 r.k,.int .i64 r.i,.int .u64 w0,.int .u64 w1,.int .u64 w2,.int .u64 w3,.int .u64 w4,.int .u64 w5,.int .u64 w6,.int .u64 w7,.int .u64 w8,.int .u64 w9,.int .u64 w10,.int .u64 w11,.int .u64 w12,.int .u64 w13,.int .u64 w14,.int .u64 w15,.int .i64 r.fr,.int .i64 r.to,.int .u64 r.fk,.int .u64 r.tk,.int .i64 r.rc,.bool r.dir] := by
 obtain ⟨w0,w1,w2,w3,w4,w5,w6,w7,w8,w9,w10,w11,w12,w13,w14,w15,hw⟩ := sixteen ht.wl
 refine ⟨w0,w1,w2,w3,w4,w5,w6,w7,w8,w9,w10,w11,w12,w13,w14,w15, ?_⟩
 unfold redA
 rw [hw]
 rfl
theorem jright_no {f : Frm} {c d e g : Int} (h : ¬ okL f c d e g) (k0 k1 : Int) (r : Redo) (ht : RedT r) (H : Heap) : pcx (cbL tab) 34 [.agg (lyA f k0 k1 c d e g),.agg (redA r)] H = some (panJ 2) := by
 have sp := fun H => jlaid_no h k0 k1 H
 clear h
 have e1 : lend (.agg (lyA f k0 k1 c d e g)) = .agg (lyA f k0 k1 c d e g) := rfl
 have e2 : lend (.agg (redA r)) = .agg (redA r) := by show AV.agg ((redA r).map unown) = _; rw [lend_redA]
 have hr := hf_redA r
 refine pcx_N rfl (pc_wp (fi := c34) rfl ?_ (by simp [c34]) (by decide) ?_)
 . show hfL [lend _,lend _] = true
   rw [e1,e2]
   simp only [hfL,AV.hf,hr]
   rfl
 rw [List.map_cons,List.map_cons,List.map_nil,e1,e2]
 clear e1 e2 hr
 obtain ⟨w0,w1,w2,w3,w4,w5,w6,w7,w8,w9,w10,w11,w12,w13,w14,w15,hw⟩ := red_lit ht
 rw [hw]
 have pj : ∀ H : Heap,purify (some (.pan [(.iface 35 (.int .i64 2),false)],H)) = some (panJ 2) := fun H => rfl
 unfold panJ at sp
 unfold c34
 unfold lyA frmA at sp ⊢
 simp only [List.cons_append,List.nil_append] at sp ⊢
 simp (disch := omega) only [wk,tupled,↓reduceIte,reduceEqDiff,reduceEq,reduceAdd,reduceCtorEq,sp,pj]
theorem jright_px {f : Frm} (h : okF f) {k0 k1 : Int} (h0 : U64 k0) (h1 : U64 k1) (r : Redo) (ht : RedT r) (H : Heap) : pcx (cbL tab) 34 [.agg (layA f k0 k1),.agg (redA r)] H = some (if mayR f r then .plain (kdR r) else panJ 310) := by
 have sp := fun H => jlaid_ok h h0 h1 H
 clear h
 have e1 : lend (.agg (layA f k0 k1)) = .agg (layA f k0 k1) := rfl
 have e2 : lend (.agg (redA r)) = .agg (redA r) := by show AV.agg ((redA r).map unown) = _; rw [lend_redA]
 have hr := hf_redA r
 refine pcx_N rfl (pc_wp (fi := c34) rfl ?_ (by simp [c34]) (by decide) ?_)
 . show hfL [lend _,lend _] = true
   rw [e1,e2]
   simp only [hfL,AV.hf,hr]
   rfl
 rw [List.map_cons,List.map_cons,List.map_nil,e1,e2]
 clear e1 e2 hr
 obtain ⟨w0,w1,w2,w3,w4,w5,w6,w7,w8,w9,w10,w11,w12,w13,w14,w15,hw⟩ := red_lit ht
 have m1 := fun H => jmay1_px f r ht H
 have m2 := fun H => jmay2_px f r ht H
 unfold undA at m1 m2
 rw [hw] at m1 m2 ⊢
 have pj : ∀ H : Heap,purify (some (.pan [(.iface 35 (.int .i64 310),false)],H)) = some (panJ 310) := fun H => rfl
 have kp := fun H => jkinds_px H
 have ip := fun H => jin_px r.i 1 f.i H
 have mt := fun H => jmust_t 310 H
 have mf := fun H => jmust_f 310 H
 have f1 := jfind1
 have f2 := jfind2
 unfold panJ at mf
 unfold kd1 at f1
 unfold kd2 at f2
 unfold c34
 unfold layA frmA at sp ⊢
 unfold frmA at m1 m2
 simp only [List.cons_append,List.nil_append] at sp m1 m2 ⊢
 by_cases c1 : r.k = 1
 . have hmb := mayB_1 (f := f) c1
   by_cases c2 : 1 <= r.i /\ r.i <= f.i
   case neg =>
     have hm : ¬ mayR f r := fun h => c2 h.1
     rw [if_neg hm]
     rw [decide_eq_false c2] at ip
     clear hm c2 hmb
     simp (disch := omega) only [wk,tupled,↓reduceIte,reduceEqDiff,reduceEq,reduceAdd,reduceCtorEq,sp,kp,List.getElem?_nil,c1,f1,cellEq_ii,ip,mf,pj]
   rw [decide_eq_true c2] at ip
   by_cases c3 : fileW r.ws = true /\ r = bareR r
   . have hm : mayR f r := ⟨c2,hmb.2 c3⟩
     rw [if_pos hm]
     rw [decide_eq_true c3] at m1
     have ek : kdR r = kd1 := if_pos c1
     rw [ek]
     unfold kd1
     rw [c1] at m1
     clear hm c2 hmb c3 hw ek
     simp (disch := omega) only [wk,tupled,↓reduceIte,reduceEqDiff,reduceEq,reduceAdd,reduceCtorEq,sp,kp,List.getElem?_nil,c1,f1,cellEq_ii,ip,m1,mt,purify,unownT,lend,unown,AV.hf,hfL,Tk.hf]
   . have hm : ¬ mayR f r := fun h => c3 (hmb.1 h.2)
     rw [if_neg hm]
     rw [decide_eq_false c3] at m1
     rw [c1] at m1
     clear hm c2 hmb c3 hw
     simp (disch := omega) only [wk,tupled,↓reduceIte,reduceEqDiff,reduceEq,reduceAdd,reduceCtorEq,sp,kp,List.getElem?_nil,c1,f1,cellEq_ii,ip,m1,mf,pj]
 by_cases c2 : r.k = 2
 . have hmb := mayB_2 (f := f) c2
   by_cases c3 : 1 <= r.i /\ r.i <= f.i
   case neg =>
     have hm : ¬ mayR f r := fun h => c3 h.1
     rw [if_neg hm]
     rw [decide_eq_false c3] at ip
     clear hm c3 hmb c1
     simp (disch := omega) only [wk,tupled,↓reduceIte,reduceEqDiff,reduceEq,reduceAdd,reduceCtorEq,sp,kp,List.getElem?_nil,c2,f2,cellEq_ii,ip,mf,pj]
   rw [decide_eq_true c3] at ip
   by_cases c4 : r.ws = ws0 /\ (1 <= r.fr /\ r.fr <= f.i) /\ (1 <= r.to /\ r.to <= f.i) /\ (1 <= r.rc /\ r.rc <= f.r) /\ (r.fr ≠ r.to ∨ r.fk ≠ r.tk)
   . have hm : mayR f r := ⟨c3,hmb.2 c4⟩
     rw [if_pos hm]
     rw [decide_eq_true c4] at m2
     have ek : kdR r = kd2 := if_neg c1
     rw [ek]
     unfold kd2
     rw [c2] at m2
     clear hm c3 hmb c4 hw ek c1
     simp (disch := omega) only [wk,tupled,↓reduceIte,reduceEqDiff,reduceEq,reduceAdd,reduceCtorEq,sp,kp,List.getElem?_nil,c2,f2,cellEq_ii,ip,m2,mt,purify,unownT,lend,unown,AV.hf,hfL,Tk.hf]
   . have hm : ¬ mayR f r := fun h => c4 (hmb.1 h.2)
     rw [if_neg hm]
     rw [decide_eq_false c4] at m2
     rw [c2] at m2
     clear hm c3 hmb c4 hw c1
     simp (disch := omega) only [wk,tupled,↓reduceIte,reduceEqDiff,reduceEq,reduceAdd,reduceCtorEq,sp,kp,List.getElem?_nil,c2,f2,cellEq_ii,ip,m2,mf,pj]
 have hm : ¬ mayR f r := fun h => by rcases mayB_k h.2 with h | h; exact c1 h; exact c2 h
 rw [if_neg hm]
 have fn := jfind_no c1 c2
 clear hm c1 c2 hw
 simp (disch := omega) only [wk,tupled,↓reduceIte,reduceEqDiff,reduceEq,reduceAdd,reduceCtorEq,sp,kp,List.getElem?_nil,fn,cellEq_ii,mf,pj]
theorem jclear0 (H : Heap) : enterA (cbL tab) 41 [] H = some (.ret (.tup []),H) := by
 have : ∃ q H',(cbL tab).ic 41 [] H = some (q,H') /\ q = .ret (.tup []) /\ H' = H := by
   refine ic_wp (fi := c41) rfl rfl (by simp [c41]) (by decide) ?_
   unfold c41
   simp (disch := omega) only [wk,tupled,↓reduceIte,reduceEqDiff,reduceEq,reduceAdd,reduceCtorEq]
 obtain ⟨q,H',h,rfl,rfl⟩ := this
 exact enterA_ic rfl (pc_none (fi := c41) rfl rfl) h
structure Ly where
 k0 : Int
 k1 : Int
 c : Int
 d : Int
 e : Int
 g : Int
def lyV (f : Frm) (y : Ly) : AV := .agg (lyA f y.k0 y.k1 y.c y.d y.e y.g)
def okY (f : Frm) (y : Ly) : Prop := okL f y.c y.d y.e y.g
instance (f : Frm) (y : Ly) : Decidable (okY f y) := inferInstanceAs (Decidable (okL _ _ _ _ _))
structure LyT (y : Ly) : Prop where
 k0 : U64 y.k0
 k1 : U64 y.k1
theorem lyV_ok {f : Frm} {y : Ly} (h : okY f y) : lyV f y = .agg (layA f y.k0 y.k1) := by unfold lyV; rw [ly_ok h]
theorem lend_lyV (f : Frm) (y : Ly) : lend (lyV f y) = lyV f y := rfl
theorem hf_lyV (f : Frm) (y : Ly) : (lyV f y).hf = true := rfl
theorem lend_redV (r : Redo) : lend (.agg (redA r)) = .agg (redA r) := by show AV.agg ((redA r).map unown) = _; rw [lend_redA]
theorem hf_redV (r : Redo) : (AV.agg (redA r)).hf = true := hf_redA r
def checkJ (f : Frm) (y : Ly) (r : Redo) : Int := if okY f y then (if mayR f r then 0 else 310) else 2
def rightJ (f : Frm) (y : Ly) (r : Redo) : PR := if okY f y then (if mayR f r then .plain (kdR r) else panJ 310) else panJ 2
theorem jright_all {f : Frm} {y : Ly} (hy : LyT y) {r : Redo} (ht : RedT r) (H : Heap) : pcx (cbL tab) 34 [lyV f y,.agg (redA r)] H = some (rightJ f y r) := by
 unfold rightJ
 by_cases h : okY f y
 . rw [if_pos h,lyV_ok h]
   exact jright_px h.1 hy.k0 hy.k1 r ht H
 . rw [if_neg h]
   exact jright_no h y.k0 y.k1 r ht H
theorem rightJ_1 {f : Frm} {y : Ly} {r : Redo} (h : checkJ f y r = 0) : okY f y /\ mayR f r /\ rightJ f y r = .plain (kdR r) := by
 unfold checkJ at h
 unfold rightJ
 split at h
 . rename_i h1
   split at h
   . rename_i h2; exact ⟨h1,h2,by rw [if_pos h1,if_pos h2]⟩
   . cases h
 . cases h
theorem rightJ_0 {f : Frm} {y : Ly} {r : Redo} (h : ¬ checkJ f y r = 0) : rightJ f y r = panJ (checkJ f y r) := by
 unfold checkJ at h ⊢
 unfold rightJ
 split at h
 . rename_i h1
   split at h
   . exact absurd rfl h
   . rename_i h2; rw [if_pos h1,if_neg h2,if_pos h1,if_neg h2]
 . rename_i h1; rw [if_neg h1,if_neg h1]
theorem jcheck_px {f : Frm} {y : Ly} (hy : LyT y) {r : Redo} (ht : RedT r) (H : Heap) : pcx (cbL tab) 16 [lyV f y,.agg (redA r)] H = some (.plain (.int .i64 (checkJ f y r))) := by
 refine pcx_N rfl (pc_wp (fi := c16) rfl ?_ (by simp [c16]) (by decide) ?_)
 . simp only [pcOn,List.map_cons,List.map_nil,hfL,hf_lend_sl,hf_lend_int,hf_lend_bool,hf_lend_str,hfL_append,Bool.and_self,Bool.and_true,Bool.true_and,c16,lend_lyV,lend_redV,hf_lyV,hf_redV]
 rw [List.map_cons,List.map_cons,List.map_nil,lend_lyV,lend_redV]
 have rp := fun H => jright_all (f := f) hy ht H
 obtain ⟨w0,w1,w2,w3,w4,w5,w6,w7,w8,w9,w10,w11,w12,w13,w14,w15,hw⟩ := red_lit ht
 rw [hw] at rp ⊢
 unfold c16
 unfold lyV lyA frmA at rp ⊢
 simp only [List.cons_append,List.nil_append] at rp ⊢
 by_cases h : checkJ f y r = 0
 . obtain ⟨h1,h2,h3⟩ := rightJ_1 h
   rw [h3] at rp
   rw [h]
   have hk : ∃ a b c d,kdR r = .agg [.int .i64 a,.fn b [],.fn c [],.fn d []] := by
     unfold kdR
     split
     . exact ⟨_,_,_,_,rfl⟩
     . exact ⟨_,_,_,_,rfl⟩
   obtain ⟨a,b,c,d,hk⟩ := hk
   rw [hk] at rp
   clear h1 h2 h3 h hk hw
   simp (disch := omega) only [wk,tupled,↓reduceIte,reduceEqDiff,reduceEq,reduceAdd,reduceCtorEq,rp]
   rw [ends_left_ret (jcaught_ret _ _ _ _)]
   simp (disch := omega) only [wk,tupled,↓reduceIte,reduceEqDiff,reduceEq,reduceAdd,reduceCtorEq,purify,unownT,lend,unown,AV.hf,hfL,Tk.hf]
 . rw [rightJ_0 h] at rp
   unfold panJ at rp
   clear h hw
   simp (disch := omega) only [wk,tupled,↓reduceIte,reduceEqDiff,reduceEq,reduceAdd,reduceCtorEq,rp]
   rw [ends_left_pan (jcaught_pan 2 _ _ _ _ _ _ _ (jclear0 _) rfl)]
   simp (disch := omega) only [wk,tupled,↓reduceIte,reduceEqDiff,reduceEq,reduceAdd,reduceCtorEq,purify,unownT,lend,unown,AV.hf,hfL,Tk.hf]
theorem jhead_px (r : Redo) (hk : r.k = 1 ∨ r.k = 2) (H : Heap) : pcx (cbL tab) 30 [.int .i64 r.k,kdR r] H = some (.plain (.int .u64 (headR r))) := by
 have key : ∀ H,pcx (cbL tab) 30 [.int .i64 1,kd1] H = some (.plain (.int .u64 4353)) := fun H => pcx_ev rfl (by kernel_rfl) H
 have key2 : ∀ H,pcx (cbL tab) 30 [.int .i64 2,kd2] H = some (.plain (.int .u64 1794)) := fun H => pcx_ev rfl (by kernel_rfl) H
 unfold kdR headR
 rcases hk with h | h
 . rw [if_pos h,if_pos h,h]; exact key H
 . rw [if_neg (by omega),if_neg (by omega),h]; exact key2 H
theorem jconc2 {A B : List Int} {s1 s2 : Nat} {t1 t2 t3 : Tk} (h1 : A ≠ [] -> s1 = 1) (h2 : B ≠ [] -> s2 = 1) (hne : A ++ B ≠ []) (hl : A.length + B.length <= 1000000) (H : Heap) :
   pcx (cbL tab) 38 [.sl 1 2 [.sl s1 A.length (encs u64A A) t1,.sl s2 B.length (encs u64A B) t2] t3] H = some (.fresh 1 (A ++ B).length (encs u64A (A ++ B))) := by
 have lb : ∀ L : List Int,(encs u64A L).length = L.length := fun L => lenU L
 refine pcx_N rfl (pc_con (g := concC) rfl rfl ?_)
 have r1 : (A.length = 0 ∨ s1 = 1) /\ A.length * 1 <= (encs u64A A).length := ⟨by by_cases h : A = []; exact .inl (by rw [h]; rfl); exact .inr (h1 h),by rw [lb]; omega⟩
 have r2 : (B.length = 0 ∨ s2 = 1) /\ B.length * 1 <= (encs u64A B).length := ⟨by by_cases h : B = []; exact .inl (by rw [h]; rfl); exact .inr (h2 h),by rw [lb]; omega⟩
 have e1 : (encs u64A A).take (A.length * 1) = encs u64A A := List.take_of_length_le (by rw [lb]; omega)
 have e2 : (encs u64A B).take (B.length * 1) = encs u64A B := List.take_of_length_le (by rw [lb]; omega)
 have hr : rowsA [.sl s1 A.length (encs u64A A) t1,.sl s2 B.length (encs u64A B) t2] = some [encs u64A A,encs u64A B] := by
   simp only [rowsA,r1,r2,if_true,and_self,Option.map_some,e1,e2]
 have hf : ([encs u64A A,encs u64A B] : List (List AV)).flatten = encs u64A (A ++ B) := by rw [encs_append]; simp
 unfold concC
 have ht : ([.sl s1 A.length (encs u64A A) t1,.sl s2 B.length (encs u64A B) t2] : List AV).take 2 = [.sl s1 A.length (encs u64A A) t1,.sl s2 B.length (encs u64A B) t2] := rfl
 simp only [ht,hr,hf]
 have hn : (encs u64A (A ++ B)).length = (A ++ B).length := lb _
 have hz : ¬ encs u64A (A ++ B) = [] := fun h => by rw [h] at hn; exact hne (List.eq_nil_of_length_eq_zero hn.symm)
 have hc : 0 < 2 /\ 2 <= ([.sl s1 A.length (encs u64A A) t1,.sl s2 B.length (encs u64A B) t2] : List AV).length /\ 2 <= 4294967296 /\ (encs u64A (A ++ B)).length <= 4294967296 := ⟨by omega,by simp,by omega,by rw [hn,List.length_append]; omega⟩
 rw [if_pos hc,if_neg hz,hn,Nat.div_one]
theorem jsealed_px {l : List Int} (h0 : l ≠ []) (hl : l.length <= 100) (hw : ∀ w ∈ l,U64 w) {tk : Tk} (ht : tk = .ro ∨ ∃ g,tk = .own g) (H : Heap) :
   pcx (cbL tab) 37 [.sl 1 l.length (encs u64A l) tk] H = some (.fresh 1 (sealM l).length (encs u64A (sealM l))) := by
 have el : lend (.sl 1 l.length (encs u64A l) tk) = .sl 1 l.length (encs u64A l) .ro := by rcases ht with rfl | ⟨g,rfl⟩ <;> rfl
 have hfu : hfL (encs u64A l) = true := hfL_encs (fun _ => rfl) l
 refine pcx_N rfl (pc_wp (fi := c37) rfl ?_ (by simp [c37]) (by decide) ?_)
 . show hfL [lend _] = true
   rw [el]
   simp [hfL,AV.hf,hfu,Tk.hf]
 unfold c37
 rw [List.map_cons,List.map_nil,el]
 have bl := bytM_len l
 have sp := fun H => seal_px h0 hl (by omega) hw (tk := .ro) (.inl rfl) H
 have hne : sealM l ≠ [] := by unfold sealM; simp
 have ot := own_tok [] (sealM l) hne
 simp (disch := omega) only [wk,tupled,↓reduceIte,reduceEqDiff,reduceEq,reduceAdd,reduceCtorEq,sp]
 rw [<- prRow_ne (f := u64A) (sz := 1) hne]
 exact purify_row (fun _ => rfl) ot (fun e => absurd e hne)
def wordsJ (f : Frm) (y : Ly) (r : Redo) : List Int := if checkJ f y r = 0 then wordsR r else []
def wordsJV (f : Frm) (y : Ly) (r : Redo) : AV := .tup [slvR 1 u64A (wordsJ f y r),.int .i64 (checkJ f y r)]
theorem jclear1 (o : Nat) (x : AV) (H : Heap) (hx : H[o]? = some (.cells [x])) : enterA (cbL tab) 36 [.ptr o 0] H = some (.ret (.tup []),H.set o (.cells [.sl 0 0 [] .z])) := by
 have : ∃ q H',(cbL tab).ic 36 [.ptr o 0] H = some (q,H') /\ q = .ret (.tup []) /\ H' = H.set o (.cells [.sl 0 0 [] .z]) := by
   refine ic_wp (fi := c36) rfl rfl (by simp [c36]) (by decide) ?_
   unfold c36
   simp (disch := omega) only [wk,tupled,↓reduceIte,reduceEqDiff,reduceEq,reduceAdd,reduceCtorEq,hx,List.append_nil]
 obtain ⟨q,H',h,rfl,rfl⟩ := this
 exact enterA_ic rfl (pc_none (fi := c36) rfl rfl) h
theorem jlay_px (f : Frm) (hf : okF f) (r : Redo) (ht : RedT r) (hm : mayR f r) : ∃ g,(kdR r = .agg [.int .i64 ((bodyR r).length : Nat),.fn (if r.k = 1 then 49 else 53) [],.fn g [],.fn (if r.k = 1 then 52 else 56) []]) /\ (cbL tab).lent g = false ∧
   ((∀ H,pcx (cbL tab) g [undA f r] H = some (prRow 1 u64A (bodyR r))) ∨ (∀ H,pcx (cbL tab) g [undA f r] H = some (.plain (.sl 1 (bodyR r).length (encs u64A (bodyR r)) .ro)))) := by
 obtain ⟨⟨i1,i2⟩,hb⟩ := hm
 have hfi := hf.2.2.2.1
 have hfr := hf.2.2.2.2.2.2.1
 rcases hb with ⟨k1,_⟩ | ⟨k2,_,a1,a2,a3,_⟩
 . have b : bodyR r = r.i :: r.ws := if_pos k1
   refine ⟨51, ?_,rfl,.inl (fun H => ?_)⟩
   . unfold kdR
     have e : (r.i :: r.ws).length = 17 := by rw [List.length_cons,ht.wl]
     rw [if_pos k1,if_pos k1,if_pos k1,b,e]; rfl
   . rw [b]
     exact jlay1_px f r ht i1 (by omega) H
 . have k1 : ¬ r.k = 1 := by omega
   have b : bodyR r = [r.fr,r.fk,r.to,r.tk,r.rc,r.i,dirI r.dir] := if_neg k1
   refine ⟨55, ?_,rfl,.inr (fun H => ?_)⟩
   . unfold kdR
     rw [if_neg k1,if_neg k1,if_neg k1,b]; rfl
   . rw [b]
     exact jlay2_px f r ⟨i1,by omega⟩ ⟨a1.1,by omega⟩ ⟨a2.1,by omega⟩ ⟨a3.1,by omega⟩ ht H
theorem jwords_px {f : Frm} {y : Ly} (hy : LyT y) {r : Redo} (ht : RedT r) (H : Heap) : pcx (cbL tab) 14 [lyV f y,.agg (redA r)] H = some (.plain (wordsJV f y r)) := by
 refine pcx_N rfl (pc_wp (fi := c14) rfl ?_ (by simp [c14]) (by decide) ?_)
 . simp only [pcOn,List.map_cons,List.map_nil,hfL,hf_lend_sl,hf_lend_int,hf_lend_bool,hf_lend_str,hfL_append,Bool.and_self,Bool.and_true,Bool.true_and,c14,lend_lyV,lend_redV,hf_lyV,hf_redV]
 rw [List.map_cons,List.map_cons,List.map_nil,lend_lyV,lend_redV]
 have rp := fun H => jright_all (f := f) hy ht H
 unfold wordsJV wordsJ
 by_cases h : checkJ f y r = 0
 . obtain ⟨h1,h2,h3⟩ := rightJ_1 h
   rw [h3] at rp
   rw [if_pos h,h]
   obtain ⟨g,hk,hg,hl⟩ := jlay_px f h1.1 r ht h2
   have hd := fun H => jhead_px r (mayB_k h2.2) H
   have pl := plainR_len ht
   have pu := plainR_u ht h1.1 h2
   have pn : plainR r ≠ [] := by unfold plainR; simp
   have hb : bodyR r ≠ [] := by unfold bodyR; split <;> simp
   have pl2 : (plainR r).length <= 18 := by rw [pl]; split <;> omega
   have e1 : (plainR r).length = 1 + (bodyR r).length := by unfold plainR; simp; omega
   have cp := fun t2 H => jconc2 (A := [headR r]) (B := bodyR r) (s1 := 1) (s2 := 1) (t1 := .ro) (t2 := t2) (t3 := .ro) (fun _ => rfl) (fun _ => rfl) (by simp) (by simp; omega) H
   have sp := fun g H => jsealed_px pn (by omega) pu (tk := .own g) (.inr ⟨g,rfl⟩) H
   have sn : wordsR r ≠ [] := by unfold wordsR sealM; simp
   have hfw : hfL (encs u64A (wordsR r)) = true := hf_u64A _
   have pc0 : [headR r] ++ bodyR r = plainR r := rfl
   rw [hk] at rp hd
   simp only [pc0,List.length_cons,List.length_nil,Nat.zero_add] at cp
   have sv : slvR 1 u64A (wordsR r) = .sl 1 (wordsR r).length (encs u64A (wordsR r)) .ro := by
     unfold slvR
     have : (wordsR r).isEmpty = false := by cases hh : wordsR r with
       | nil => exact absurd hh sn
       | cons _ _ => rfl
     rw [this]; rfl
   have eh : encs u64A [headR r] = [.int .u64 (headR r)] := rfl
   rw [eh] at cp
   have es : sealM (plainR r) = wordsR r := rfl
   rw [es] at sp
   have ha : (lyV f y) = .agg (lyA f y.k0 y.k1 y.c y.d y.e y.g) := rfl
   obtain ⟨w0,w1,w2,w3,w4,w5,w6,w7,w8,w9,w10,w11,w12,w13,w14,w15,hw⟩ := red_lit ht
   rw [hw] at rp ⊢
   rw [sv]
   generalize wordsR r = W at *
   generalize bodyR r = B at *
   rw [prRow_ne hb] at hl
   unfold undA at hl
   rw [hw] at hl
   generalize plainR r = P at *
   clear hk hw h h1 h2 h3 pl ha es pc0 pu
   unfold c14
   unfold lyV lyA frmA at rp ⊢
   unfold frmA at hl
   simp only [List.cons_append,List.nil_append] at rp hl ⊢
   rcases hl with hl | hl
   . simp (disch := omega) only [wk,tupled,↓reduceIte,reduceEqDiff,reduceEq,reduceAdd,reduceCtorEq,rp,hd,hl,cp,sp,runE_none hg]
     rw [ends_left_ret (jcaught_ret _ _ _ _)]
     simp (disch := omega) only [wk,tupled,↓reduceIte,reduceEqDiff,reduceEq,reduceAdd,reduceCtorEq,purify,unownT,lend,unown,AV.hf,hfL,Tk.hf,hfw]
   . simp (disch := omega) only [wk,tupled,↓reduceIte,reduceEqDiff,reduceEq,reduceAdd,reduceCtorEq,rp,hd,hl,cp,sp,runE_none hg]
     rw [ends_left_ret (jcaught_ret _ _ _ _)]
     simp (disch := omega) only [wk,tupled,↓reduceIte,reduceEqDiff,reduceEq,reduceAdd,reduceCtorEq,purify,unownT,lend,unown,AV.hf,hfL,Tk.hf,hfw]
 . rw [rightJ_0 h] at rp
   unfold panJ at rp
   rw [if_neg h]
   obtain ⟨w0,w1,w2,w3,w4,w5,w6,w7,w8,w9,w10,w11,w12,w13,w14,w15,hw⟩ := red_lit ht
   rw [hw] at rp ⊢
   unfold c14
   unfold lyV lyA frmA at rp ⊢
   simp only [List.cons_append,List.nil_append] at rp ⊢
   clear h hw
   have sv : slvR 1 u64A ([] : List Int) = .sl 0 0 [] .z := rfl
   rw [sv]
   simp (disch := omega) only [wk,tupled,↓reduceIte,reduceEqDiff,reduceEq,reduceAdd,reduceCtorEq,rp]
   rw [ends_left_pan (jcaught_pan 3 _ _ _ _ _ _ _ (jclear1 2 _ _ rfl) rfl)]
   simp (disch := omega) only [wk,tupled,↓reduceIte,reduceEqDiff,reduceEq,reduceAdd,reduceCtorEq,purify,unownT,lend,unown,AV.hf,hfL,Tk.hf]
theorem in_next {args : List AV} {H : Heap} : pcx (cbL tab) 32 args H = none := pcx_none rfl (pc_none (fi := c32) rfl rfl)
theorem ll_next : (cbL tab).lent 32 = false := rfl
theorem in_numb {args : List AV} {H : Heap} : pcx (cbL tab) 33 args H = none := pcx_none rfl (pc_none (fi := c33) rfl rfl)
theorem ll_numb : (cbL tab).lent 33 = false := rfl
structure NxH (a b c : Nat) (B : List Int) (tk : Tk) (H : Heap) : Prop where
 ab : a ≠ b
 ac : a ≠ c
 ha : a < H.length
 hb : H[b]? = some (.cells [.sl 1 B.length (encs u64A B) tk])
 hc : H[c]? = some (.cells [.fn 32 [.ptr a 0,.ptr b 0]])
def StJ (H : Heap) (a n : Nat) (T : List AObj) : Heap := H.set a (.cells [.int .i64 (n : Nat)]) ++ T
theorem st_a {H : Heap} {a n : Nat} {T : List AObj} (h : a < H.length) : (StJ H a n T)[a]? = some (.cells [.int .i64 (n : Nat)]) := by
 unfold StJ
 rw [List.getElem?_append_left (by simpa using h),List.getElem?_set_self h]
theorem st_o {H : Heap} {a n k : Nat} {T : List AObj} {o : AObj} (h : a ≠ k) (hk : H[k]? = some o) : (StJ H a n T)[k]? = some o := by
 unfold StJ
 have := (List.getElem?_eq_some_iff.1 hk).1
 rw [List.getElem?_append_left (by simpa using this),List.getElem?_set_ne h,hk]
theorem st_set {H : Heap} {a n m : Nat} {T : List AObj} (h : a < H.length) : (StJ H a n T).set a (.cells [.int .i64 (m : Nat)]) = StJ H a m T := by
 unfold StJ
 rw [List.set_append_left _ _ (by simpa using h),List.set_set]
theorem next_ic {a b c : Nat} {B : List Int} {tk : Tk} {H : Heap} (hx : NxH a b c B tk H) (n : Nat) (T : List AObj) (hn : n + 1 < B.length) (hl : B.length <= 1000) :
   (cbL tab).ic 32 [.ptr a 0,.ptr b 0] (StJ H a n T) = some (.ret (.int .u64 (B.getD (n + 1) 0)),StJ H a (n + 1) T) := by
 have : ∃ q H',(cbL tab).ic 32 [.ptr a 0,.ptr b 0] (StJ H a n T) = some (q,H') /\ q = .ret (.int .u64 (B.getD (n + 1) 0)) /\ H' = StJ H a (n + 1) T := by
   refine ic_wp (fi := c32) rfl rfl (by simp [c32]) (by decide) ?_
   unfold c32
   have h1 := st_a (n := n) (T := T) hx.ha
   have h2 := st_o (n := n + 1) (T := T) hx.ab hx.hb
   have h3 := st_a (n := n + 1) (T := T) hx.ha
   have h4 : (StJ H a n T).set a (.cells [.int .i64 ((n : Int) + 1)]) = StJ H a (n + 1) T := st_set (m := n + 1) hx.ha
   have h5 : (List.drop (n + 1) (encs u64A B))[0]? = some (.int .u64 (B.getD (n + 1) 0)) := by rw [List.getElem?_drop]; exact getU B (n + 1) hn
   have e : ((n + 1 : Nat) : Int) = (n : Int) + 1 := by omega
   rw [e] at h3
   have n1 : (n : Int) + 1 < (B.length : Int) := by omega
   have n2 : 0 <= (n : Int) + 1 := by omega
   have n3 : ((n : Int) + 1).toNat = n + 1 := by omega
   simp (disch := omega) only [wk,tupled,↓reduceIte,reduceEqDiff,reduceEq,reduceAdd,reduceCtorEq,h1,h2,h3,h4,h5,n1,n2,n3,Nat.mul_one]
 obtain ⟨q,H',h,rfl,rfl⟩ := this
 exact h
theorem numb_ic {a b c : Nat} {B : List Int} {tk : Tk} {H : Heap} (hx : NxH a b c B tk H) (n : Nat) (T : List AObj) (hn : n + 1 < B.length) (hl : B.length <= 1000) (hw : ∀ w ∈ B,U64 w) :
   (cbL tab).ic 33 [.ptr c 0] (StJ H a n T) = some (if B.getD (n + 1) 0 < 2147483648 then .ret (.int .i64 (B.getD (n + 1) 0)) else .pan [(.iface 35 (.int .i64 310),false)],StJ H a (n + 1) T) := by
 have : ∃ q H',(cbL tab).ic 33 [.ptr c 0] (StJ H a n T) = some (q,H') /\ q = (if B.getD (n + 1) 0 < 2147483648 then .ret (.int .i64 (B.getD (n + 1) 0)) else .pan [(.iface 35 (.int .i64 310),false)]) /\ H' = StJ H a (n + 1) T := by
   refine ic_wp (fi := c33) rfl rfl (by simp [c33]) (by decide) ?_
   unfold c33
   have h1 := st_o (n := n) (T := T) hx.ac hx.hc
   have nx := next_ic hx n T hn hl
   have hu : U64 (B.getD (n + 1) 0) := by
     have : B.getD (n + 1) 0 = B[n + 1] := by rw [List.getD_eq_getElem?_getD,List.getElem?_eq_getElem hn]; rfl
     rw [this]
     exact hw _ (List.getElem_mem hn)
   generalize B.getD (n + 1) 0 = x at nx hu ⊢
   have x0 := hu.1
   have mt := fun H => jmust_t 310 H
   have mf := fun H => jmust_f 310 H
   unfold panJ at mf
   by_cases h : x < 2147483648
   . have v : IntKind.i64.wrap x = x := wrap_i64 (by omega) (by omega)
     simp (disch := omega) only [wk,tupled,↓reduceIte,reduceEqDiff,reduceEq,reduceAdd,reduceCtorEq,h1,in_next,runE_none ll_next,nx,h,mt,v]
   . simp (disch := omega) only [wk,tupled,↓reduceIte,reduceEqDiff,reduceEq,reduceAdd,reduceCtorEq,h1,in_next,runE_none ll_next,nx,h,mf]
 obtain ⟨q,H',h,rfl,rfl⟩ := this
 exact h
theorem st_0 {H : Heap} {a : Nat} (T : List AObj) (h : H[a]? = some (.cells [.int .i64 0])) : H ++ T = StJ H a 0 T := by
 unfold StJ
 have e : (AObj.cells [.int .i64 ((0 : Nat) : Int)]) = .cells [.int .i64 0] := rfl
 have hlt := (List.getElem?_eq_some_iff.1 h).1
 have hs : H.set a (AObj.cells [.int .i64 0]) = H := List.ext_getElem? fun k => by
   by_cases hk : a = k
   . subst hk; rw [List.getElem?_set_self hlt,h]
   . rw [List.getElem?_set_ne hk]
 rw [e,hs]
theorem st_g {H : Heap} {a n : Nat} (Z : List AV) : (StJ H a n [.cells Z])[H.length]? = some (.cells Z) := by
 unfold StJ
 rw [List.getElem?_append_right (by simp)]
 simp
theorem st_s {H : Heap} {a n : Nat} (Z Z' : List AV) : (StJ H a n [.cells Z]).set H.length (.cells Z') = StJ H a n [.cells Z'] := by
 unfold StJ
 rw [List.set_append_right _ _ (by simp)]
 simp
theorem st_k {H : Heap} {a n : Nat} (T : List AObj) : H.length <= (StJ H a n T).length /\ ∀ k,k ≠ a -> k < H.length -> (StJ H a n T)[k]? = H[k]? := by
 unfold StJ
 refine ⟨by simp,fun k hk hl => ?_⟩
 rw [List.getElem?_append_left (by simpa using hl),List.getElem?_set_ne (fun e => hk e.symm)]
def TakJ (g : FuncId) (a b c : Nat) (H : Heap) (ok : Prop) (r : Redo) : Prop :=
 ∃ o H',(cbL tab).ic g [.fn 32 [.ptr a 0,.ptr b 0],.fn 33 [.ptr c 0]] H = some (o,H') /\ ((ok /\ o = .ret (.agg (redA r))) ∨ (¬ ok /\ o = .pan [(.iface 35 (.int .i64 310),false)])) /\ H.length <= H'.length /\ ∀ k,k ≠ a -> k < H.length -> H'[k]? = H[k]?
def ok6 (B : List Int) : Prop := B.getD 1 0 < 2147483648 /\ B.getD 3 0 < 2147483648 /\ B.getD 5 0 < 2147483648 /\ B.getD 6 0 < 2147483648 /\ B.getD 7 0 <= 1
def red6 (B : List Int) : Redo := ⟨0,B.getD 6 0,ws0,B.getD 1 0,B.getD 3 0,B.getD 2 0,B.getD 4 0,B.getD 5 0,decide (B.getD 7 0 = 1)⟩
theorem take6 {a b c : Nat} {B : List Int} {tk : Tk} {H : Heap} (hx : NxH a b c B tk H) (h0 : H[a]? = some (.cells [.int .i64 0])) (hl : B.length = 8) (hw : ∀ w ∈ B,U64 w) :
   TakJ 56 a b c H (ok6 B) (red6 B) := by
 have : ∃ o H',(cbL tab).ic 56 [.fn 32 [.ptr a 0,.ptr b 0],.fn 33 [.ptr c 0]] H = some (o,H') /\ (((ok6 B) /\ o = .ret (.agg (redA (red6 B)))) ∨ (¬ (ok6 B) /\ o = .pan [(.iface 35 (.int .i64 310),false)])) /\ H.length <= H'.length /\ ∀ k,k ≠ a -> k < H.length -> H'[k]? = H[k]? := by
   refine ic_wp (fi := c56) rfl rfl (by simp [c56]) (by decide) ?_
   have s0 := fun T => st_0 T h0
   have g1 := fun n Z => st_g (H := H) (a := a) (n := n) Z
   have g2 := fun n Z Z' => st_s (H := H) (a := a) (n := n) Z Z'
   have kk := fun n T => st_k (H := H) (a := a) (n := n) T
   have hl2 : B.length <= 1000 := by omega
   have n0 : ∀ T,(cbL tab).ic 33 [.ptr c 0] (StJ H a 0 T) = some (if B.getD 1 0 < 2147483648 then .ret (.int .i64 (B.getD 1 0)) else .pan [(.iface 35 (.int .i64 310),false)],StJ H a 1 T) := fun T => numb_ic hx 0 T (by omega) hl2 hw
   have n1 : ∀ T,(cbL tab).ic 32 [.ptr a 0,.ptr b 0] (StJ H a 1 T) = some (.ret (.int .u64 (B.getD 2 0)),StJ H a 2 T) := fun T => next_ic hx 1 T (by omega) hl2
   have n2 : ∀ T,(cbL tab).ic 33 [.ptr c 0] (StJ H a 2 T) = some (if B.getD 3 0 < 2147483648 then .ret (.int .i64 (B.getD 3 0)) else .pan [(.iface 35 (.int .i64 310),false)],StJ H a 3 T) := fun T => numb_ic hx 2 T (by omega) hl2 hw
   have n3 : ∀ T,(cbL tab).ic 32 [.ptr a 0,.ptr b 0] (StJ H a 3 T) = some (.ret (.int .u64 (B.getD 4 0)),StJ H a 4 T) := fun T => next_ic hx 3 T (by omega) hl2
   have n4 : ∀ T,(cbL tab).ic 33 [.ptr c 0] (StJ H a 4 T) = some (if B.getD 5 0 < 2147483648 then .ret (.int .i64 (B.getD 5 0)) else .pan [(.iface 35 (.int .i64 310),false)],StJ H a 5 T) := fun T => numb_ic hx 4 T (by omega) hl2 hw
   have n5 : ∀ T,(cbL tab).ic 33 [.ptr c 0] (StJ H a 5 T) = some (if B.getD 6 0 < 2147483648 then .ret (.int .i64 (B.getD 6 0)) else .pan [(.iface 35 (.int .i64 310),false)],StJ H a 6 T) := fun T => numb_ic hx 5 T (by omega) hl2 hw
   have n6 : ∀ T,(cbL tab).ic 32 [.ptr a 0,.ptr b 0] (StJ H a 6 T) = some (.ret (.int .u64 (B.getD 7 0)),StJ H a 7 T) := fun T => next_ic hx 6 T (by omega) hl2
   have rr : red6 B = ⟨0,B.getD 6 0,ws0,B.getD 1 0,B.getD 3 0,B.getD 2 0,B.getD 4 0,B.getD 5 0,decide (B.getD 7 0 = 1)⟩ := rfl
   have oo : ok6 B ↔ (B.getD 1 0 < 2147483648 /\ B.getD 3 0 < 2147483648 /\ B.getD 5 0 < 2147483648 /\ B.getD 6 0 < 2147483648 /\ B.getD 7 0 <= 1) := Iff.rfl
   generalize B.getD 1 0 = b1,B.getD 2 0 = b2,B.getD 3 0 = b3,B.getD 4 0 = b4,B.getD 5 0 = b5,B.getD 6 0 = b6,B.getD 7 0 = b7 at *
   have mt := fun H => jmust_t 310 H
   have mf := fun H => jmust_f 310 H
   unfold panJ at mf
   generalize ok6 B = O at *
   rw [rr]
   clear rr
   unfold c56
   by_cases c1 : b1 < 2147483648
   case neg =>
     have no : ¬ O := fun h => c1 ((oo.1 h).1)
     simp (disch := omega) only [wk,tupled,↓reduceIte,reduceEqDiff,reduceEq,reduceAdd,reduceCtorEq,s0,g1,g2,in_next,runE_none ll_next,in_numb,runE_none ll_numb,n0,n1,n2,n3,n4,n5,n6,c1]
     exact ⟨.inr no,kk _ _⟩
   by_cases c3 : b3 < 2147483648
   case neg =>
     have no : ¬ O := fun h => c3 ((oo.1 h).2.1)
     simp (disch := omega) only [wk,tupled,↓reduceIte,reduceEqDiff,reduceEq,reduceAdd,reduceCtorEq,s0,g1,g2,in_next,runE_none ll_next,in_numb,runE_none ll_numb,n0,n1,n2,n3,n4,n5,n6,c1,c3]
     exact ⟨.inr no,kk _ _⟩
   by_cases c5 : b5 < 2147483648
   case neg =>
     have no : ¬ O := fun h => c5 ((oo.1 h).2.2.1)
     simp (disch := omega) only [wk,tupled,↓reduceIte,reduceEqDiff,reduceEq,reduceAdd,reduceCtorEq,s0,g1,g2,in_next,runE_none ll_next,in_numb,runE_none ll_numb,n0,n1,n2,n3,n4,n5,n6,c1,c3,c5]
     exact ⟨.inr no,kk _ _⟩
   by_cases c6 : b6 < 2147483648
   case neg =>
     have no : ¬ O := fun h => c6 ((oo.1 h).2.2.2.1)
     simp (disch := omega) only [wk,tupled,↓reduceIte,reduceEqDiff,reduceEq,reduceAdd,reduceCtorEq,s0,g1,g2,in_next,runE_none ll_next,in_numb,runE_none ll_numb,n0,n1,n2,n3,n4,n5,n6,c1,c3,c5,c6]
     exact ⟨.inr no,kk _ _⟩
   by_cases c7 : b7 <= 1
   case neg =>
     have no : ¬ O := fun h => c7 ((oo.1 h).2.2.2.2)
     simp (disch := omega) only [wk,tupled,↓reduceIte,reduceEqDiff,reduceEq,reduceAdd,reduceCtorEq,s0,g1,g2,in_next,runE_none ll_next,in_numb,runE_none ll_numb,n0,n1,n2,n3,n4,n5,n6,c1,c3,c5,c6,c7,mf]
     exact ⟨.inr no,kk _ _⟩
   have yes : O := oo.2 ⟨c1,c3,c5,c6,c7⟩
   simp (disch := omega) only [wk,tupled,↓reduceIte,reduceEqDiff,reduceEq,reduceAdd,reduceCtorEq,s0,g1,g2,in_next,runE_none ll_next,in_numb,runE_none ll_numb,n0,n1,n2,n3,n4,n5,n6,c1,c3,c5,c6,c7,mt]
   exact ⟨.inl ⟨yes,rfl⟩,kk _ _⟩
 exact this
def wsJ (B : List Int) (j : Nat) : List Int := (B.drop 2).take j ++ List.replicate (16 - j) 0
theorem wsJ_len {B : List Int} (h : B.length = 18) {j : Nat} (hj : j <= 16) : (wsJ B j).length = 16 := by
 unfold wsJ
 rw [List.length_append,List.length_take,List.length_drop,List.length_replicate]
 omega
theorem wsJ_set {B : List Int} (h : B.length = 18) {j : Nat} (hj : j < 16) : (wsJ B j).set j (B.getD (j + 2) 0) = wsJ B (j + 1) := by
 unfold wsJ
 have l1 : ((B.drop 2).take j).length = j := by rw [List.length_take,List.length_drop]; omega
 have hr : 16 - j = (16 - (j + 1)) + 1 := by omega
 have hg : (B.drop 2)[j]? = some (B.getD (j + 2) 0) := by
   rw [List.getElem?_drop,List.getD_eq_getElem?_getD,show 2 + j = j + 2 by omega,List.getElem?_eq_getElem (by omega)]
   rfl
 rw [List.set_append_right _ _ (by omega),l1,Nat.sub_self,hr,List.replicate_succ,List.set_cons_zero,List.take_add_one,hg]
 simp
theorem wsJ_end {B : List Int} : wsJ B 16 = (B.drop 2).take 16 := by unfold wsJ; simp
theorem cellsW (x y : AV) (ws : List Int) (t : List AV) (j : Nat) (hj : j < ws.length) (v : Int) :
   List.take (2 + j) (x :: y :: (encs u64A ws ++ t)) ++ [.int .u64 v] ++ List.drop (2 + j) (y :: (encs u64A ws ++ t)) = x :: y :: (encs u64A (ws.set j v) ++ t) := by
 have e := setU ws j v hj
 have l := lenU ws
 rw [show 2 + j = (j + 1) + 1 by omega,List.take_succ_cons,List.take_succ_cons,List.drop_succ_cons,List.take_append_of_le_length (by omega),List.drop_append_of_le_length (by omega),<- e]
 simp
def ok3 (B : List Int) : Prop := B.getD 1 0 < 2147483648
def red3 (B : List Int) : Redo := ⟨0,B.getD 1 0,(B.drop 2).take 16,0,0,0,0,0,false⟩
def t6z : List AV := [.int .i64 0,.int .i64 0,.int .u64 0,.int .u64 0,.int .i64 0,.bool false]
theorem st_g0 {H : Heap} {a n : Nat} (Z R : List AV) : (StJ H a n [.cells Z,.cells R])[H.length]? = some (.cells Z) := by
 unfold StJ
 rw [List.getElem?_append_right (by simp)]
 simp
theorem st_g1 {H : Heap} {a n : Nat} (Z R : List AV) : (StJ H a n [.cells Z,.cells R])[H.length + 1]? = some (.cells R) := by
 unfold StJ
 rw [List.getElem?_append_right (by simp)]
 simp
theorem st_s0 {H : Heap} {a n : Nat} (Z R Z' : List AV) : (StJ H a n [.cells Z,.cells R]).set H.length (.cells Z') = StJ H a n [.cells Z',.cells R] := by
 unfold StJ
 rw [List.set_append_right _ _ (by simp)]
 simp
theorem st_s1 {H : Heap} {a n : Nat} (Z R R' : List AV) : (StJ H a n [.cells Z,.cells R]).set (H.length + 1) (.cells R') = StJ H a n [.cells Z,.cells R'] := by
 unfold StJ
 rw [List.set_append_right _ _ (by simp)]
 simp
theorem st_p {H : Heap} {a n : Nat} (Z R : List AV) : StJ H a n [.cells Z] ++ [.cells R] = StJ H a n [.cells Z,.cells R] := by
 unfold StJ
 simp
theorem st_l {H : Heap} {a n : Nat} (Z : List AV) : (StJ H a n [.cells Z]).length = H.length + 1 := by
 unfold StJ
 simp
theorem take3 {a b c : Nat} {B : List Int} {tk : Tk} {H : Heap} (hx : NxH a b c B tk H) (h0 : H[a]? = some (.cells [.int .i64 0])) (hl : B.length = 18) (hw : ∀ w ∈ B,U64 w) :
   TakJ 52 a b c H (ok3 B) (red3 B) := by
 have : ∃ o H',(cbL tab).ic 52 [.fn 32 [.ptr a 0,.ptr b 0],.fn 33 [.ptr c 0]] H = some (o,H') /\ (((ok3 B) /\ o = .ret (.agg (redA (red3 B)))) ∨ (¬ (ok3 B) /\ o = .pan [(.iface 35 (.int .i64 310),false)])) /\ H.length <= H'.length /\ ∀ k,k ≠ a -> k < H.length -> H'[k]? = H[k]? := by
   refine ic_wp (fi := c52) rfl rfl (by simp [c52]) (by decide) ?_
   have s0 := fun T => st_0 T h0
   have g0 := fun n Z R => st_g0 (H := H) (a := a) (n := n) Z R
   have g1 := fun n Z R => st_g1 (H := H) (a := a) (n := n) Z R
   have p0 := fun n Z R => st_s0 (H := H) (a := a) (n := n) Z R
   have p1 := fun n Z R => st_s1 (H := H) (a := a) (n := n) Z R
   have pp := fun n Z R => st_p (H := H) (a := a) (n := n) Z R
   have sl := fun n Z => st_l (H := H) (a := a) (n := n) Z
   have kk := fun n T => st_k (H := H) (a := a) (n := n) T
   have hl2 : B.length <= 1000 := by omega
   have n0 : ∀ T,(cbL tab).ic 33 [.ptr c 0] (StJ H a 0 T) = some (if B.getD 1 0 < 2147483648 then .ret (.int .i64 (B.getD 1 0)) else .pan [(.iface 35 (.int .i64 310),false)],StJ H a 1 T) := fun T => numb_ic hx 0 T (by omega) hl2 hw
   have rr : red3 B = ⟨0,B.getD 1 0,wsJ B 16,0,0,0,0,0,false⟩ := by rw [wsJ_end]; rfl
   have oo : ok3 B ↔ B.getD 1 0 < 2147483648 := Iff.rfl
   generalize hO : ok3 B = O at *
   rw [rr]
   clear rr hO
   generalize B.getD 1 0 = b1 at *
   unfold c52
   by_cases c1 : b1 < 2147483648
   case neg =>
     have no : ¬ O := fun h => c1 (oo.1 h)
     simp (disch := omega) only [wk,tupled,↓reduceIte,reduceEqDiff,reduceEq,reduceAdd,reduceCtorEq,s0,in_numb,runE_none ll_numb,n0,c1]
     exact ⟨.inr no,kk _ _⟩
   have yes : O := oo.2 c1
   simp (disch := omega) only [wk,tupled,↓reduceIte,reduceEqDiff,reduceEq,reduceAdd,reduceCtorEq,s0,g0,g1,p0,p1,pp,sl,in_numb,runE_none ll_numb,n0,c1]
   refine loop_ind (fun (j : Nat) E df H1 => j <= 16 /\ E 0 = .fn 32 [.ptr a 0,.ptr b 0] /\ E 4 = .ptr H.length 0 /\ E 5 = .ptr (H.length + 1) 0 /\ E 10 = .int .i64 (j : Nat) /\ df = [] ∧
       H1 = StJ H a (1 + j) [.cells (redA red0),.cells (.int .i64 0 :: .int .i64 b1 :: (encs u64A (wsJ B j) ++ t6z))])
     (fun j => 16 - j) 0 (by decide) (.inl rfl) ⟨by omega,rfl,rfl,rfl,rfl,rfl,rfl⟩ ?_
   intro j E df H1 ih hP
   obtain ⟨hj,E0,E4,E5,E10,hdf,hH⟩ := hP
   subst hdf hH
   by_cases hj2 : j < 16
   . have m1 : (j : Int) < 16 := by omega
     have nx : ∀ T,(cbL tab).ic 32 [.ptr a 0,.ptr b 0] (StJ H a (1 + j) T) = some (.ret (.int .u64 (B.getD (j + 2) 0)),StJ H a (1 + (j + 1)) T) := fun T => by
       have t := next_ic hx (1 + j) T (by omega) hl2
       have ea : B.getD (1 + j + 1) 0 = B.getD (j + 2) 0 := by rw [show 1 + j + 1 = j + 2 by omega]
       rw [ea,show 1 + j + 1 = 1 + (j + 1) by omega] at t
       exact t
     have wl := wsJ_len hl (j := j) (by omega)
     have lw := lenU (wsJ B j)
     have cw := cellsW (.int .i64 0) (.int .i64 b1) (wsJ B j) t6z j (by omega) (B.getD (j + 2) 0)
     rw [wsJ_set hl hj2] at cw
     have l6 : t6z.length = 6 := rfl
     simp (disch := omega) only [wk,tupled,↓reduceIte,reduceEqDiff,reduceEq,reduceAdd,reduceCtorEq,E0,E4,E5,E10,m1,in_next,runE_none ll_next,nx,g1,p1,wl,lw,l6,cw]
     refine ih (j + 1) _ _ _ (by omega) ⟨by omega,by simp only [en,↓reduceIte,reduceEqDiff,E0],by simp only [en,↓reduceIte,reduceEqDiff,E4],by simp only [en,↓reduceIte,reduceEqDiff,E5],by simp only [en,↓reduceIte,reduceEqDiff],rfl,rfl⟩
   . obtain rfl : j = 16 := by omega
     have m1 : ¬ ((16 : Nat) : Int) < 16 := by omega
     have eR : AV.int .i64 0 :: .int .i64 b1 :: (encs u64A (wsJ B 16) ++ t6z) = redA ⟨0,b1,wsJ B 16,0,0,0,0,0,false⟩ := rfl
     have wl := wsJ_len hl (j := 16) (by omega)
     have hl24 : ∀ r : Redo,r.ws.length = 16 -> (redA r).length = 24 := fun r h => by
       unfold redA
       simp only [List.length_cons,List.length_append,lenU,h,List.length_nil]
     have l0 := hl24 red0 rfl
     have oR : allOne (redA ⟨0,b1,wsJ B 16,0,0,0,0,0,false⟩) = true := by
       have e : redA ⟨0,b1,wsJ B 16,0,0,0,0,0,false⟩ = [.int .i64 0,.int .i64 b1] ++ (encs u64A (wsJ B 16) ++ t6z) := rfl
       rw [e,allOne_append,allOne_append,one_u64A]
       rfl
     have lR := hl24 ⟨0,b1,wsJ B 16,0,0,0,0,0,false⟩ wl
     rw [eR] at *
     generalize redA ⟨0,b1,wsJ B 16,0,0,0,0,0,false⟩ = R at *
     have tR : List.take 24 R = R := List.take_of_length_le (by omega)
     have d0 : List.drop 24 (redA red0) = [] := List.drop_of_length_le (by omega)
     have fl : (AV.agg R).flat = R := rfl
     simp (disch := omega) only [wk,tupled,↓reduceIte,reduceEqDiff,reduceEq,reduceAdd,reduceCtorEq,E0,E4,E5,E10,m1,g0,g1,p0,tR,d0,oR,fl,l0,lR,List.append_nil]
     exact ⟨.inl yes,kk _ _⟩
 exact this
theorem sopen_px {A : List Int} {x : Int} (h0 : A ≠ []) (hl : A.length <= 90) (hw : ∀ w ∈ A,U64 w) (H : Heap) : pcx (cbL tab) 31 [.sl 1 (A.length + 1) (encs u64A A ++ [.int .u64 x]) .ro] H =
   some (.plain (if moreM 0 (bytM A) = x then .tup [.sl 1 A.length (encs u64A A) .ro,.int .i64 0] else .tup [.sl 0 0 [] .z,.int .i64 130])) := by
 have e1 : lend (.sl 1 (A.length + 1) (encs u64A A ++ [.int .u64 x]) .ro) = .sl 1 (A.length + 1) (encs u64A A ++ [.int .u64 x]) .ro := rfl
 have hfu : hfL (encs u64A A) = true := hfL_encs (fun _ => rfl) A
 have n0 : A.length ≠ 0 := fun e => h0 (List.eq_nil_of_length_eq_zero e)
 refine pcx_N rfl (pc_wp (fi := c31) rfl ?_ (by simp [c31]) (by decide) ?_)
 . show hfL [lend _] = true
   rw [e1]
   simp [hfL,AV.hf,hfL_append,hfu,Tk.hf]
 unfold c31
 rw [List.map_cons,List.map_nil,e1]
 have bl := bytM_len A
 have sp := fun tk H => wsum_px h0 (by omega) (by omega) hw tk H
 have cp := fun H => cloneU_px h0 (by omega) (tk := .ro) (.inl rfl) H
 have t1 : List.take A.length (encs u64A A ++ [AV.int .u64 x]) = encs u64A A := by rw [<- lenU A,List.take_left]
 have d1 : List.drop A.length (encs u64A A ++ [AV.int .u64 x]) = [.int .u64 x] := by rw [<- lenU A,List.drop_left]
 have lu := lenU A
 have m1 : ((A.length : Int) + 1 - 1).toNat = A.length := by omega
 have m2 : (Tk.ro).isZ = false := rfl
 by_cases h : moreM 0 (bytM A) = x
 . rw [if_pos h]
   simp (disch := omega) only [wk,tupled,↓reduceIte,reduceEqDiff,reduceEq,reduceAdd,reduceCtorEq,sp,cp,t1,d1,h,lu,m1,m2,hfu,purify,unownT,lend,unown,AV.hf,hfL,Tk.hf]
 . rw [if_neg h]
   simp (disch := omega) only [wk,tupled,↓reduceIte,reduceEqDiff,reduceEq,reduceAdd,reduceCtorEq,sp,cp,t1,d1,h,lu,m1,m2,hfu,purify,unownT,lend,unown,AV.hf,hfL,Tk.hf]
def outJ (f : Frm) (y : Ly) (w : List Int) : Redo × Bool × Int := if okY f y then ofW f w else (red0,false,2)
def outV (x : Redo × Bool × Int) : AV := .tup [.agg (redA x.1),.bool x.2.1,.int .i64 x.2.2]
theorem jclear2 (o p : Nat) (x : List AV) (z : AV) (H : Heap) (hop : o ≠ p) (hx : H[o]? = some (.cells x)) (hl : x.length = 24) (hz : H[p]? = some (.cells [z])) : enterA (cbL tab) 26 [.ptr o 0,.ptr p 0] H = some (.ret (.tup []),(H.set o (.cells (redA red0))).set p (.cells [.bool false])) := by
 have : ∃ q H',(cbL tab).ic 26 [.ptr o 0,.ptr p 0] H = some (q,H') /\ q = .ret (.tup []) /\ H' = (H.set o (.cells (redA red0))).set p (.cells [.bool false]) := by
   refine ic_wp (fi := c26) rfl rfl (by simp [c26]) (by decide) ?_
   unfold c26
   have d : List.drop 24 x = [] := List.drop_of_length_le (by omega)
   have h2 : ∀ A,(H.set o A)[p]? = some (.cells [z]) := fun A => by rw [List.getElem?_set_ne hop]; exact hz
   have e : redA red0 = [.int .i64 0,.int .i64 0,.int .u64 0,.int .u64 0,.int .u64 0,.int .u64 0,.int .u64 0,.int .u64 0,.int .u64 0,.int .u64 0,.int .u64 0,.int .u64 0,.int .u64 0,.int .u64 0,.int .u64 0,.int .u64 0,.int .u64 0,.int .u64 0,.int .i64 0,.int .i64 0,.int .u64 0,.int .u64 0,.int .i64 0,.bool false] := rfl
   rw [e]
   simp (disch := omega) only [wk,tupled,↓reduceIte,reduceEqDiff,reduceEq,reduceAdd,reduceCtorEq,hx,hl,d,h2,List.append_nil]
 obtain ⟨q,H',h,rfl,rfl⟩ := this
 exact enterA_ic rfl (pc_none (fi := c26) rfl rfl) h
theorem and255 {xo yo : X} {ek : EqK} {r : Int} (h : U64 r) : binV .and ek xo yo (.int .u64 r) (.int .u64 255) = some (.int .u64 (r % 256)) := by
 obtain ⟨a,rfl⟩ := Int.eq_ofNat_of_zero_le h.1
 have := u64_and (xo := xo) (yo := yo) (ek := ek) (a := a) (b := 255) (by have := h.2; omega)
 rw [show (255 : Nat) % 18446744073709551616 = 2 ^ 8 - 1 from rfl,Nat.and_two_pow_sub_one_eq_mod] at this
 exact this
theorem unownT_out (r : Redo) (b : Bool) (e : Int) : unownT (.tup [.agg (redA r),.bool b,.int .i64 e]) = .tup [.agg (redA r),.bool b,.int .i64 e] := by
 simp only [unownT,List.map_cons,List.map_nil,lend_redV,lend_int]
 rfl
theorem purify_out (r : Redo) (b : Bool) (e : Int) (H : Heap) : purify (some (.ret (.tup [.agg (redA r),.bool b,.int .i64 e]),H)) = some (.plain (outV (r,b,e))) := by
 have h : (AV.tup [.agg (redA r),.bool b,.int .i64 e]).hf = true := by
   show ((AV.agg (redA r)).hf && _) = true
   rw [hf_redV]; rfl
 show (if (unownT (.tup [.agg (redA r),.bool b,.int .i64 e])).hf then some (PR.plain (unownT (.tup [.agg (redA r),.bool b,.int .i64 e]))) else none) = _
 rw [unownT_out,if_pos h]; rfl
theorem red0_lit : redA red0 = [.int .i64 0,.int .i64 0,.int .u64 0,.int .u64 0,.int .u64 0,.int .u64 0,.int .u64 0,.int .u64 0,.int .u64 0,.int .u64 0,.int .u64 0,.int .u64 0,.int .u64 0,.int .u64 0,.int .u64 0,.int .u64 0,.int .u64 0,.int .u64 0,.int .i64 0,.int .i64 0,.int .u64 0,.int .u64 0,.int .i64 0,.bool false] := rfl
theorem jof_1 {f : Frm} {y : Ly} (hy : LyT y) (w : List Int) (rest : List AV) (s : Nat) (tk : Tk) (hs : w ≠ [] -> s = 1) (ht0 : tk.hf = true) (hr : hfL rest = true) (hw : ∀ x ∈ w,U64 x) (hl : w.length <= 1000)
   (hc : ¬ okY f y ∨ (okY f y /\ w.length ≠ 64) ∨ (okY f y /\ w.length = 64 /\ w.getD 0 0 = 0) ∨ (okY f y /\ w.length = 64 /\ w.getD 0 0 ≠ 0 /\ w.getD 0 0 ≠ 4353 /\ w.getD 0 0 ≠ 1794)) :
   (cbL tab).pc 10 [lyV f y,.sl s w.length (encs u64A w ++ rest) tk] = some (.plain (outV (outJ f y w))) := by
 obtain ⟨u1,e1,f1⟩ := lend_sl s w.length (encs u64A w ++ rest) tk
 have hfu : hfL (encs u64A w) = true := hf_u64A w
 refine pc_wp (fi := c10) rfl ?_ (by simp [c10]) (by decide) ?_
 . simp only [pcOn,List.map_cons,List.map_nil,hfL,hf_lend_sl,hf_lend_int,hf_lend_bool,hf_lend_str,hfL_append,Bool.and_self,Bool.and_true,Bool.true_and,c10,lend_lyV,hf_lyV,hfu,hr,AV.hf,ht0]
 rw [List.map_cons,List.map_cons,List.map_nil,lend_lyV,e1]
 have mt := fun H => jmust_t 310 H
 have mf := fun H => jmust_f 310 H
 have pz := fun e H => purify_out red0 false e H
 rw [red0_lit] at pz
 unfold panJ at mf
 unfold outJ
 unfold c10
 by_cases hok : okY f y
 case neg =>
   have la := fun H => jlaid_no (f := f) (c := y.c) (d := y.d) (e := y.e) (g := y.g) hok y.k0 y.k1 H
   unfold panJ at la
   rw [if_neg hok]
   clear hok hc
   unfold lyV lyA frmA at *
   simp only [List.cons_append,List.nil_append] at la ⊢
   simp (disch := omega) only [wk,tupled,↓reduceIte,reduceEqDiff,reduceEq,reduceAdd,reduceCtorEq,la]
   rw [ends_left_pan (jcaught_pan 3 _ _ _ _ _ _ _ (jclear2 1 2 _ _ _ (by decide) rfl rfl rfl) rfl),red0_lit]
   simp (disch := omega) only [wk,tupled,↓reduceIte,reduceEqDiff,reduceEq,reduceAdd,reduceCtorEq,pz]
 have la := fun H => jlaid_ok hok.1 hy.k0 hy.k1 H
 rw [<- lyV_ok hok] at la
 rw [if_pos hok]
 unfold ofW
 unfold lyV lyA frmA at *
 simp only [List.cons_append,List.nil_append] at la ⊢
 by_cases h64 : w.length = 64
 case neg =>
   rw [if_pos h64]
   have h64' : ¬ (w.length : Int) = 64 := by omega
   clear hc
   simp (disch := omega) only [wk,tupled,↓reduceIte,reduceEqDiff,reduceEq,reduceAdd,reduceCtorEq,la,h64',mf]
   rw [ends_left_pan (jcaught_pan 3 _ _ _ _ _ _ _ (jclear2 1 2 _ _ _ (by decide) rfl rfl rfl) rfl),red0_lit]
   simp (disch := omega) only [wk,tupled,↓reduceIte,reduceEqDiff,reduceEq,reduceAdd,reduceCtorEq,pz]
 rw [if_neg (fun h => h h64)]
 obtain rfl := hs (by intro h; rw [h] at h64; cases h64)
 have g0 : (encs u64A w ++ rest)[0]? = some (.int .u64 (w.getD 0 0)) := by
   rw [List.getElem?_append_left (by rw [lenU]; omega)]
   exact getU w 0 (by omega)
 have hu : U64 (w.getD 0 0) := by
   have : w.getD 0 0 = w[0] := by rw [List.getD_eq_getElem?_getD,List.getElem?_eq_getElem (by omega)]; rfl
   rw [this]
   exact hw _ (List.getElem_mem _)
 have hgw : w.getD 0 0 ≠ 4353 -> w.getD 0 0 ≠ 1794 -> ¬ goodW f w := fun a b h => by
   rcases h.1 with h | h
   . exact a h
   . exact b h.1
 generalize w.getD 0 0 = w0 at *
 have i64 : ((64 : Nat) : Int) = 64 := rfl
 have i0 : (0 : Int).toNat = 0 := rfl
 rw [h64]
 by_cases hz : w0 = 0
 . rw [if_pos hz]
   simp (disch := omega) only [wk,tupled,↓reduceIte,reduceEqDiff,reduceEq,reduceAdd,reduceCtorEq,la,i64,i0,mt,g0,hz]
   rw [ends_left_ret (jcaught_ret _ _ _ _)]
   simp (disch := omega) only [wk,tupled,↓reduceIte,reduceEqDiff,reduceEq,reduceAdd,reduceCtorEq,pz]
 have hc2 : w0 ≠ 4353 /\ w0 ≠ 1794 := by
   rcases hc with h | h | h | h
   . exact absurd hok h
   . exact absurd h64 h.2
   . exact absurd h.2.2 hz
   . exact h.2.2.2
 have hg : ¬ goodW f w := hgw hc2.1 hc2.2
 rw [if_neg hz,if_neg hg]
 have an := fun xo yo ek => and255 (xo := xo) (yo := yo) (ek := ek) hu
 have x0 := hu.1
 have x1 := hu.2
 have v1 : IntKind.i64.wrap (w0 % 256) = w0 % 256 := wrap_i64 (by omega) (by omega)
 have kp := fun H => jkinds_px H
 by_cases k1 : w0 % 256 = 1
 . have f1 := jfind1
   unfold kd1 at f1
   have hd : ∀ H,pcx (cbL tab) 30 [.int .i64 1,kd1] H = some (.plain (.int .u64 4353)) := fun H => pcx_ev rfl (by kernel_rfl) H
   unfold kd1 at hd
   have c1 := hc2.1
   simp (disch := omega) only [wk,tupled,↓reduceIte,reduceEqDiff,reduceEq,reduceAdd,reduceCtorEq,la,i64,i0,mt,g0,hz,an,v1,kp,List.getElem?_nil,k1,f1,cellEq_ii,hd,c1,mf]
   rw [ends_left_pan (jcaught_pan 3 _ _ _ _ _ _ _ (jclear2 1 2 _ _ _ (by decide) rfl rfl rfl) rfl),red0_lit]
   simp (disch := omega) only [wk,tupled,↓reduceIte,reduceEqDiff,reduceEq,reduceAdd,reduceCtorEq,pz]
 by_cases k2 : w0 % 256 = 2
 . have f2 := jfind2
   unfold kd2 at f2
   have hd : ∀ H,pcx (cbL tab) 30 [.int .i64 2,kd2] H = some (.plain (.int .u64 1794)) := fun H => pcx_ev rfl (by kernel_rfl) H
   unfold kd2 at hd
   have c2 := hc2.2
   simp (disch := omega) only [wk,tupled,↓reduceIte,reduceEqDiff,reduceEq,reduceAdd,reduceCtorEq,la,i64,i0,mt,g0,hz,an,v1,kp,List.getElem?_nil,k2,f2,cellEq_ii,hd,c2,mf]
   rw [ends_left_pan (jcaught_pan 3 _ _ _ _ _ _ _ (jclear2 1 2 _ _ _ (by decide) rfl rfl rfl) rfl),red0_lit]
   simp (disch := omega) only [wk,tupled,↓reduceIte,reduceEqDiff,reduceEq,reduceAdd,reduceCtorEq,pz]
 have fn := jfind_no k1 k2
 simp (disch := omega) only [wk,tupled,↓reduceIte,reduceEqDiff,reduceEq,reduceAdd,reduceCtorEq,la,i64,i0,mt,g0,hz,an,v1,kp,List.getElem?_nil,fn,cellEq_ii,mf]
 rw [ends_left_pan (jcaught_pan 3 _ _ _ _ _ _ _ (jclear2 1 2 _ _ _ (by decide) rfl rfl rfl) rfl),red0_lit]
 simp (disch := omega) only [wk,tupled,↓reduceIte,reduceEqDiff,reduceEq,reduceAdd,reduceCtorEq,pz]
def withK (r : Redo) (k : Int) : Redo := { r with k := k }
theorem jof_2 {f : Frm} {y : Ly} (hy : LyT y) (hok : okY f y) (w : List Int) (rest : List AV) (tk : Tk) (htk : tk = .ro ∨ ∃ g,tk = .own g) (ht0 : tk.hf = true) (hr : hfL rest = true) (hw : ∀ x ∈ w,U64 x) (h64 : w.length = 64)
   (k m : Int) (n q : Nat) (f1 f2 ft : FuncId) (w0 : Int) (hw0 : w.getD 0 0 = w0) (hnz : w0 ≠ 0) (hmod : w0 % 256 = k) (hk : k = 1 ∨ k = 2) (hm : m + 1 = (n : Nat)) (hn1 : 1 <= n) (hn2 : n <= 18)
   (fd : findA 0 (.int .i64 k) jkE 0 = some (some (q,.agg [.int .i64 m,.fn f1 [],.fn f2 [],.fn ft []])))
   (hd : ∀ H,pcx (cbL tab) 30 [.int .i64 k,.agg [.int .i64 m,.fn f1 [],.fn f2 [],.fn ft []]] H = some (.plain (.int .u64 w0)))
   (ok : Prop) (r : Redo) (htak : ∀ {a b c : Nat} {H : Heap} {tk : Tk},NxH a b c (w.take n) tk H -> H[a]? = some (.cells [.int .i64 0]) -> TakJ ft a b c H ok r)
   (hin : ∀ H,pcx (cbL tab) ft [.fn 32 [.ptr 7 0,.ptr 6 0],.fn 33 [.ptr 8 0]] H = none) (hll : (cbL tab).lent ft = false)
   (hrt : ok -> RedT (withK r k)) (hgood : goodW f w ↔ ok /\ mayR f (withK r k) /\ moreM 0 (bytM (w.take n)) = w.getD n 0) (hdec : decR w = withK r k) :
   (cbL tab).pc 10 [lyV f y,.sl 1 w.length (encs u64A w ++ rest) tk] = some (.plain (outV (outJ f y w))) := by
 have e1 : lend (.sl 1 w.length (encs u64A w ++ rest) tk) = .sl 1 w.length (encs u64A w ++ rest) .ro := by rcases htk with rfl | ⟨g,rfl⟩ <;> rfl
 have hfu : hfL (encs u64A w) = true := hf_u64A w
 refine pc_wp (fi := c10) rfl ?_ (by simp [c10]) (by decide) ?_
 . simp only [pcOn,List.map_cons,List.map_nil,hfL,hf_lend_sl,hf_lend_int,hf_lend_bool,hf_lend_str,hfL_append,Bool.and_self,Bool.and_true,Bool.true_and,c10,lend_lyV,hf_lyV,hfu,hr,AV.hf,ht0]
 rw [List.map_cons,List.map_cons,List.map_nil,lend_lyV,e1]
 have mt := fun H => jmust_t 310 H
 have mf := fun H => jmust_f 310 H
 have pz := fun e H => purify_out red0 false e H
 rw [red0_lit] at pz
 unfold panJ at mf
 have la := fun H => jlaid_ok hok.1 hy.k0 hy.k1 H
 rw [<- lyV_ok hok] at la
 unfold outJ
 rw [if_pos hok]
 unfold ofW
 rw [if_neg (fun h => h h64),hw0,if_neg hnz]
 have g0 : (encs u64A w ++ rest)[0]? = some (.int .u64 w0) := by
   rw [List.getElem?_append_left (by rw [lenU]; omega),<- hw0]
   exact getU w 0 (by omega)
 have hu : U64 w0 := by
   have : w.getD 0 0 = w[0] := by rw [List.getD_eq_getElem?_getD,List.getElem?_eq_getElem (by omega)]; rfl
   rw [<- hw0,this]
   exact hw _ (List.getElem_mem _)
 have an := fun xo yo ek => and255 (xo := xo) (yo := yo) (ek := ek) hu
 have x0 := hu.1
 have x1 := hu.2
 have v1 : IntKind.i64.wrap (w0 % 256) = w0 % 256 := wrap_i64 (by omega) (by omega)
 rw [hmod] at an v1
 have kp := fun H => jkinds_px H
 have bw : ∀ x ∈ w.take n,U64 x := fun x hx => hw x (List.mem_of_mem_take hx)
 have bl : (w.take n).length = n := by rw [List.length_take]; omega
 have bn : w.take n ≠ [] := fun h => by rw [h] at bl; simp at bl; omega
 have op := fun H => sopen_px (A := w.take n) (x := w.getD n 0) bn (by omega) bw H
 rw [bl] at op
 have tw : List.take (n + 1) (encs u64A w ++ rest) = encs u64A (w.take n) ++ [.int .u64 (w.getD n 0)] := by
   rw [List.take_append_of_le_length (by rw [lenU]; omega),List.take_add_one,getU w n (by omega)]
   congr 1
   rw [encs_mapU,encs_mapU,List.map_take]
 have i64 : ((64 : Nat) : Int) = 64 := rfl
 have i0 : (0 : Int).toNat = 0 := rfl
 have m2 : (m + 2).toNat = n + 1 := by omega
 have m3 : m + 2 <= 64 := by omega
 have m4 : 0 <= m + 2 := by omega
 have z0 : (Tk.ro).isZ = false := rfl
 have lw : (encs u64A w).length = 64 := by rw [lenU,h64]
 rw [h64]
 clear h64 hfu e1
 unfold c10
 unfold lyV lyA frmA at *
 simp only [List.cons_append,List.nil_append] at la ⊢
 by_cases hs : moreM 0 (bytM (w.take n)) = w.getD n 0
 case neg =>
   have hg : ¬ goodW f w := fun h => hs (hgood.1 h).2.2
   rw [if_neg hg]
   have on : ∀ A B : AV,(if moreM 0 (bytM (w.take n)) = w.getD n 0 then A else B) = B := fun A B => if_neg hs
   rw [on] at op
   clear hgood hg hs hdec htak hin hll hrt
   simp (disch := omega) only [wk,tupled,↓reduceIte,reduceEqDiff,reduceEq,reduceAdd,reduceCtorEq,la,i64,i0,mt,g0,hnz,an,v1,kp,List.getElem?_nil,fd,cellEq_ii,hd,tw,m2,m3,m4,z0,lw,op,mf]
   rw [ends_left_pan (jcaught_pan 3 _ _ _ _ _ _ _ (jclear2 1 2 _ _ _ (by decide) rfl rfl rfl) rfl),red0_lit]
   simp (disch := omega) only [wk,tupled,↓reduceIte,reduceEqDiff,reduceEq,reduceAdd,reduceCtorEq,pz]
 have on : ∀ A B : AV,(if moreM 0 (bytM (w.take n)) = w.getD n 0 then A else B) = A := fun A B => if_pos hs
 rw [on] at op
 obtain ⟨Hd,hHd⟩ : ∃ Hd : Heap,Hd = [.cells [.int .i64 f.b,.int .i64 f.i,.int .i64 f.r,.int .i64 f.t,.int .u64 y.k0,.int .u64 y.k1,.int .i64 y.c,.int .i64 y.d,.int .i64 y.e,.int .i64 y.g],.cells (redA red0),.cells [.bool false],.cells [.int .i64 0],.map jkE,
   .cells [.int .i64 m,.fn f1 [],.fn f2 [],.fn ft []],.cells [.sl 1 n (encs u64A (List.take n w)) .ro],.cells [.int .i64 0],.cells [.fn 32 [.ptr 7 0,.ptr 6 0]]] := ⟨_,rfl⟩
 have lHd : Hd.length = 9 := by rw [hHd]; rfl
 have nx : NxH 7 6 8 (w.take n) .ro Hd := ⟨by decide,by decide,by omega,by rw [hHd,bl]; rfl,by rw [hHd]; rfl⟩
 obtain ⟨o,H2,p1,p2,p3,p4⟩ := htak nx (by rw [hHd]; rfl)
 have q0 : H2[0]? = some (.cells [.int .i64 f.b,.int .i64 f.i,.int .i64 f.r,.int .i64 f.t,.int .u64 y.k0,.int .u64 y.k1,.int .i64 y.c,.int .i64 y.d,.int .i64 y.e,.int .i64 y.g]) := by rw [p4 0 (by decide) (by omega),hHd]; rfl
 have q1 : H2[1]? = some (.cells (redA red0)) := by rw [p4 1 (by decide) (by omega),hHd]; rfl
 have q2 : H2[2]? = some (.cells [.bool false]) := by rw [p4 2 (by decide) (by omega),hHd]; rfl
 have q3 : H2[3]? = some (.cells [.int .i64 0]) := by rw [p4 3 (by decide) (by omega),hHd]; rfl
 rw [hHd,red0_lit] at p1
 rw [lHd] at p3
 clear hHd lHd nx p4
 have a1 : ∀ A,(H2.set 1 A)[1]? = some A := fun A => List.getElem?_set_self (by omega)
 have a0 : ∀ A,(H2.set 1 A)[0]? = some (.cells [.int .i64 f.b,.int .i64 f.i,.int .i64 f.r,.int .i64 f.t,.int .u64 y.k0,.int .u64 y.k1,.int .i64 y.c,.int .i64 y.d,.int .i64 y.e,.int .i64 y.g]) := fun A => by rw [List.getElem?_set_ne (by decide)]; exact q0
 have a2 : ∀ A,(H2.set 1 A)[2]? = some (.cells [.bool false]) := fun A => by rw [List.getElem?_set_ne (by decide)]; exact q2
 have a3 : ∀ A B,((H2.set 1 A).set 2 B)[3]? = some (.cells [.int .i64 0]) := fun A B => by rw [List.getElem?_set_ne (by decide),List.getElem?_set_ne (by decide)]; exact q3
 have b1 : ∀ A B C,(((H2.set 1 A).set 2 B).set 3 C)[1]? = some A := fun A B C => by rw [List.getElem?_set_ne (by decide),List.getElem?_set_ne (by decide),List.getElem?_set_self (by omega)]
 have b2 : ∀ A B C,(((H2.set 1 A).set 2 B).set 3 C)[2]? = some B := fun A B C => by rw [List.getElem?_set_ne (by decide),List.getElem?_set_self (by rw [List.length_set]; omega)]
 have b3 : ∀ A B C,(((H2.set 1 A).set 2 B).set 3 C)[3]? = some C := fun A B C => List.getElem?_set_self (by rw [List.length_set,List.length_set]; omega)
 rcases p2 with ⟨hy1,rfl⟩ | ⟨hno,rfl⟩
 case inr =>
   have hg : ¬ goodW f w := fun h => hno (hgood.1 h).1
   rw [if_neg hg]
   clear hgood hg hs hdec htak hrt hno
   simp (disch := omega) only [wk,tupled,↓reduceIte,reduceEqDiff,reduceEq,reduceAdd,reduceCtorEq,la,i64,i0,mt,g0,hnz,an,v1,kp,List.getElem?_nil,fd,cellEq_ii,hd,tw,m2,m3,m4,z0,lw,op,hin,runE_none hll,p1]
   rw [ends_left_pan (jcaught_pan 3 _ _ _ _ _ _ _ (jclear2 1 2 _ _ _ (by decide) q1 rfl q2) (a3 _ _)),red0_lit]
   simp (disch := omega) only [wk,tupled,↓reduceIte,reduceEqDiff,reduceEq,reduceAdd,reduceCtorEq,b1,b2,b3,pz]
 have ht := hrt hy1
 have rp := fun H => jright_px hok.1 hy.k0 hy.k1 (withK r k) ht H
 rw [<- lyV_ok hok] at rp
 have pk := fun H => purify_out (withK r k) true 0 H
 obtain ⟨w1,w2,w3,w4,w5,w6,w7,w8,w9,w10,w11,w12,w13,w14,w15,w16,hws⟩ := sixteen ht.wl
 have ek : redA (withK r k) = [.int .i64 k,.int .i64 r.i,.int .u64 w1,.int .u64 w2,.int .u64 w3,.int .u64 w4,.int .u64 w5,.int .u64 w6,.int .u64 w7,.int .u64 w8,.int .u64 w9,.int .u64 w10,.int .u64 w11,.int .u64 w12,.int .u64 w13,.int .u64 w14,.int .u64 w15,.int .u64 w16,.int .i64 r.fr,.int .i64 r.to,.int .u64 r.fk,.int .u64 r.tk,.int .i64 r.rc,.bool r.dir] := by
   unfold redA
   rw [hws]
   rfl
 have er : redA r = [.int .i64 r.k,.int .i64 r.i,.int .u64 w1,.int .u64 w2,.int .u64 w3,.int .u64 w4,.int .u64 w5,.int .u64 w6,.int .u64 w7,.int .u64 w8,.int .u64 w9,.int .u64 w10,.int .u64 w11,.int .u64 w12,.int .u64 w13,.int .u64 w14,.int .u64 w15,.int .u64 w16,.int .i64 r.fr,.int .i64 r.to,.int .u64 r.fk,.int .u64 r.tk,.int .i64 r.rc,.bool r.dir] := by
   have hws' : r.ws = [w1,w2,w3,w4,w5,w6,w7,w8,w9,w10,w11,w12,w13,w14,w15,w16] := hws
   unfold redA
   rw [hws']
   rfl
 rw [ek] at rp pk
 rw [er] at p1
 rw [red0_lit] at q1
 unfold lyV lyA frmA at rp
 simp only [List.cons_append,List.nil_append] at rp
 by_cases hm : mayR f (withK r k)
 . have hg : goodW f w := hgood.2 ⟨hy1,hm,hs⟩
   rw [if_pos hg,hdec]
   have rq := fun H => (rp H).trans (by rw [if_pos hm])
   clear rp hgood hg hs hdec htak hrt hm ek er hws ht
   have hk4 : ∃ c1 c2 c3 c4,kdR (withK r k) = .agg [.int .i64 c1,.fn c2 [],.fn c3 [],.fn c4 []] := by
     unfold kdR
     split
     . exact ⟨_,_,_,_,rfl⟩
     . exact ⟨_,_,_,_,rfl⟩
   obtain ⟨c1,c2,c3,c4,hk4⟩ := hk4
   rw [hk4] at rq
   simp (disch := omega) only [wk,tupled,↓reduceIte,reduceEqDiff,reduceEq,reduceAdd,reduceCtorEq,la,i64,i0,mt,g0,hnz,an,v1,kp,List.getElem?_nil,fd,cellEq_ii,hd,tw,m2,m3,m4,z0,lw,op,hin,runE_none hll,p1,q0,q1,q2,q3,a0,a1,a2,a3,List.set_set,rq,List.append_nil]
   rw [ends_left_ret (jcaught_ret _ _ _ _)]
   simp (disch := omega) only [wk,tupled,↓reduceIte,reduceEqDiff,reduceEq,reduceAdd,reduceCtorEq,b1,b2,b3,List.set_set,pk]
 . have hg : ¬ goodW f w := fun h => hm (hgood.1 h).2.1
   rw [if_neg hg]
   have rq := fun H => (rp H).trans (by rw [if_neg hm])
   unfold panJ at rq
   clear rp hgood hg hs hdec htak hrt hm ek er hws ht
   simp (disch := omega) only [wk,tupled,↓reduceIte,reduceEqDiff,reduceEq,reduceAdd,reduceCtorEq,la,i64,i0,mt,g0,hnz,an,v1,kp,List.getElem?_nil,fd,cellEq_ii,hd,tw,m2,m3,m4,z0,lw,op,hin,runE_none hll,p1,q0,q1,q2,q3,a0,a1,a2,a3,List.set_set,rq,List.append_nil]
   rw [ends_left_pan (jcaught_pan 3 _ _ _ _ _ _ _ (jclear2 1 2 _ _ _ (by decide) (a1 _) rfl (a2 _)) (by rw [List.set_set]; exact a3 _ _)),red0_lit]
   simp (disch := omega) only [wk,tupled,↓reduceIte,reduceEqDiff,reduceEq,reduceAdd,reduceCtorEq,b1,b2,b3,List.set_set,pz]
theorem lo0 : (-9223372036854775808 : Int) <= 0 := by decide
theorem hi0 : (0 : Int) < 9223372036854775808 := by decide
theorem lo1 : (-9223372036854775808 : Int) <= 1 := by decide
theorem hi1 : (1 : Int) < 9223372036854775808 := by decide
theorem lo2 : (-9223372036854775808 : Int) <= 2 := by decide
theorem hi2 : (2 : Int) < 9223372036854775808 := by decide
theorem u0 : U64 0 := ⟨by decide,by decide⟩
theorem getD_take {l : List Int} {i n : Nat} (h : i < n) : (l.take n).getD i 0 = l.getD i 0 := by
 rw [List.getD_eq_getElem?_getD,List.getElem?_take,if_pos h,<- List.getD_eq_getElem?_getD]
theorem getD_u {w : List Int} (hw : ∀ x ∈ w,U64 x) (i : Nat) : U64 (w.getD i 0) := by
 by_cases h : i < w.length
 . have : w.getD i 0 = w[i] := by rw [List.getD_eq_getElem?_getD,List.getElem?_eq_getElem h]; rfl
   rw [this]
   exact hw _ (List.getElem_mem h)
 . have : w.getD i 0 = 0 := by rw [List.getD_eq_getElem?_getD,List.getElem?_eq_none (by omega)]; rfl
   rw [this]
   exact ⟨by decide,by decide⟩
theorem seal_iff {w : List Int} {n : Nat} (h : n < w.length) : sealM (w.take n) = w.take (n + 1) ↔ moreM 0 (bytM (w.take n)) = w.getD n 0 := by
 have e : w.take (n + 1) = w.take n ++ [w.getD n 0] := by
   rw [List.take_add_one,List.getElem?_eq_getElem h,List.getD_eq_getElem?_getD,List.getElem?_eq_getElem h]
   rfl
 rw [e]
 unfold sealM
 constructor
 . intro h1
   have := List.append_cancel_left h1
   simpa using this
 . intro h1
   rw [h1]
theorem ok6_iff {B : List Int} : ok6 B ↔ B.getD 1 0 < 2147483648 /\ B.getD 3 0 < 2147483648 /\ B.getD 5 0 < 2147483648 /\ B.getD 6 0 < 2147483648 /\ B.getD 7 0 <= 1 := Iff.rfl
theorem dec1 {w : List Int} (h0 : w.getD 0 0 = 4353) : decR w = withK (red3 (w.take 18)) 1 := by
 have e : withK (red3 (w.take 18)) 1 = ⟨1,(w.take 18).getD 1 0,((w.take 18).drop 2).take 16,0,0,0,0,0,false⟩ := rfl
 have e2 : ((w.take 18).drop 2).take 16 = (w.drop 2).take 16 := by
   rw [List.drop_take,List.take_take]
   rfl
 rw [e,getD_take (by decide),e2]
 unfold decR
 rw [if_pos h0]
theorem dec2 {w : List Int} (h0 : w.getD 0 0 ≠ 4353) : decR w = withK (red6 (w.take 8)) 2 := by
 have e : withK (red6 (w.take 8)) 2 = ⟨2,(w.take 8).getD 6 0,ws0,(w.take 8).getD 1 0,(w.take 8).getD 3 0,(w.take 8).getD 2 0,(w.take 8).getD 4 0,(w.take 8).getD 5 0,decide ((w.take 8).getD 7 0 = 1)⟩ := rfl
 rw [e,getD_take (by decide),getD_take (by decide),getD_take (by decide),getD_take (by decide),getD_take (by decide),getD_take (by decide),getD_take (by decide)]
 unfold decR
 rw [if_neg h0]
theorem jof_pc {f : Frm} {y : Ly} (hy : LyT y) (w : List Int) (rest : List AV) (s : Nat) (tk : Tk) (htk : tk = .ro ∨ (∃ g,tk = .own g) ∨ w = []) (hs : w ≠ [] -> s = 1) (ht0 : tk.hf = true) (hr : hfL rest = true) (hw : ∀ x ∈ w,U64 x) (hl : w.length <= 1000) :
   (cbL tab).pc 10 [lyV f y,.sl s w.length (encs u64A w ++ rest) tk] = some (.plain (outV (outJ f y w))) := by
 by_cases hok : okY f y
 case neg => exact jof_1 hy w rest s tk hs ht0 hr hw hl (.inl hok)
 by_cases h64 : w.length = 64
 case neg => exact jof_1 hy w rest s tk hs ht0 hr hw hl (.inr (.inl ⟨hok,h64⟩))
 have hne : w ≠ [] := fun h => by rw [h] at h64; cases h64
 obtain rfl := hs hne
 have htk2 : tk = .ro ∨ ∃ g,tk = .own g := by
   rcases htk with h | h | h
   . exact .inl h
   . exact .inr h
   . exact absurd h hne
 by_cases hz : w.getD 0 0 = 0
 . exact jof_1 hy w rest 1 tk hs ht0 hr hw hl (.inr (.inr (.inl ⟨hok,h64,hz⟩)))
 have hfi := hok.1.2.2.2.1
 have hfr := hok.1.2.2.2.2.2.2.1
 by_cases k1 : w.getD 0 0 = 4353
 . have mw : manyW w = 18 := if_pos k1
   have bl : (w.take 18).length = 18 := by rw [List.length_take]; omega
   have bw : ∀ x ∈ w.take 18,U64 x := fun x hx => hw x (List.mem_of_mem_take hx)
   have u1 := getD_u bw 1
   refine jof_2 hy hok w rest tk htk2 ht0 hr hw h64 1 17 18 0 49 51 52 4353 k1 (by decide) (by decide) (.inl rfl) (by decide) (by decide) (by decide) jfind1 (fun H => pcx_ev rfl (by kernel_rfl) H)
     (ok3 (w.take 18)) (red3 (w.take 18)) (fun nx h0 => take3 nx h0 bl bw) (fun H => pcx_none rfl (pc_none (fi := c52) rfl rfl)) rfl ?_ ?_ (dec1 k1)
   . intro ho
     have ho : (w.take 18).getD 1 0 < 2147483648 := ho
     have i0 := u1.1
     exact ⟨lo1,hi1,by show _ <= (w.take 18).getD 1 0; omega,by show (w.take 18).getD 1 0 < _; omega,by show (((w.take 18).drop 2).take 16).length = 16; rw [List.length_take,List.length_drop,bl]; rfl,
       fun x hx => bw x (List.mem_of_mem_drop (List.mem_of_mem_take hx)),lo0,hi0,lo0,hi0,u0,u0,lo0,hi0⟩
   . unfold goodW
     rw [mw,seal_iff (by omega),dec1 k1]
     constructor
     . rintro ⟨_,b,c⟩
       have := b.1.2
       exact ⟨by show (w.take 18).getD 1 0 < _; have e : (withK (red3 (w.take 18)) 1).i = (w.take 18).getD 1 0 := rfl; rw [e] at this; omega,b,c⟩
     . rintro ⟨_,b,c⟩
       exact ⟨.inl k1,b,c⟩
 by_cases k2 : w.getD 0 0 = 1794
 . have mw : manyW w = 8 := if_neg k1
   have bl : (w.take 8).length = 8 := by rw [List.length_take]; omega
   have bw : ∀ x ∈ w.take 8,U64 x := fun x hx => hw x (List.mem_of_mem_take hx)
   have u1 := getD_u bw 1
   have u3 := getD_u bw 3
   have u5 := getD_u bw 5
   have u6 := getD_u bw 6
   have e7 : (w.take 8).getD 7 0 = w.getD 7 0 := getD_take (by decide)
   refine jof_2 hy hok w rest tk htk2 ht0 hr hw h64 2 7 8 1 53 55 56 1794 k2 (by decide) (by decide) (.inr rfl) (by decide) (by decide) (by decide) jfind2 (fun H => pcx_ev rfl (by kernel_rfl) H)
     (ok6 (w.take 8)) (red6 (w.take 8)) (fun nx h0 => take6 nx h0 bl bw) (fun H => pcx_none rfl (pc_none (fi := c56) rfl rfl)) rfl ?_ ?_ (dec2 k1)
   . intro ho
     obtain ⟨o1,o3,o5,o6,o7⟩ := ok6_iff.1 ho
     have p1 := u1.1
     have p3 := u3.1
     have p5 := u5.1
     have p6 := u6.1
     exact ⟨lo2,hi2,by show _ <= (w.take 8).getD 6 0; omega,by show (w.take 8).getD 6 0 < _; omega,rfl,fun x hx => by have := (List.mem_replicate.1 hx).2; subst this; exact ⟨by decide,by decide⟩,
       by show _ <= (w.take 8).getD 1 0; omega,by show (w.take 8).getD 1 0 < _; omega,by show _ <= (w.take 8).getD 3 0; omega,by show (w.take 8).getD 3 0 < _; omega,getD_u bw 2,getD_u bw 4,by show _ <= (w.take 8).getD 5 0; omega,by show (w.take 8).getD 5 0 < _; omega⟩
   . unfold goodW
     rw [mw,seal_iff (by omega),dec2 k1]
     constructor
     . rintro ⟨a,b,c⟩
       have hi := b.1.2
       have hb := (mayB_2 (f := f) (r := withK (red6 (w.take 8)) 2) rfl).1 b.2
       have e6 : (withK (red6 (w.take 8)) 2).i = (w.take 8).getD 6 0 := rfl
       have e1 : (withK (red6 (w.take 8)) 2).fr = (w.take 8).getD 1 0 := rfl
       have e3 : (withK (red6 (w.take 8)) 2).to = (w.take 8).getD 3 0 := rfl
       have e5 : (withK (red6 (w.take 8)) 2).rc = (w.take 8).getD 5 0 := rfl
       rw [e6] at hi
       rw [e1,e3,e5] at hb
       have a7 : w.getD 7 0 <= 1 := by
         rcases a with a | a
         . exact absurd a k1
         . exact a.2
       exact ⟨ok6_iff.2 ⟨by omega,by omega,by omega,by omega,by omega⟩,b,c⟩
     . rintro ⟨o,b,c⟩
       have := (ok6_iff.1 o).2.2.2.2
       exact ⟨.inr ⟨k2,by omega⟩,b,c⟩
 exact jof_1 hy w rest 1 tk hs ht0 hr hw hl (.inr (.inr (.inr ⟨hok,h64,hz,k1,k2⟩)))
theorem scalU (l : List Int) : (encs u64A l).all (·.scal) = true := by
 induction l with
 | nil => rfl
 | cons x r ih => rw [encs_cons,List.all_append,ih]; rfl
theorem bare_out (x : Redo × Bool × Int) : (outV x).bare = true := by
 have h : (redA x.1).all (·.scal) = true := by
   have e : redA x.1 = [.int .i64 x.1.k,.int .i64 x.1.i] ++ (encs u64A x.1.ws ++ [.int .i64 x.1.fr,.int .i64 x.1.to,.int .u64 x.1.fk,.int .u64 x.1.tk,.int .i64 x.1.rc,.bool x.1.dir]) := rfl
   rw [e,List.all_append,List.all_append,scalU]
   rfl
 show ((redA x.1).all (·.scal) && _) = true
 rw [h]
 rfl
theorem jof_px' {f : Frm} {y : Ly} (hy : LyT y) (w : List Int) (rest : List AV) (s : Nat) (tk : Tk) (htk : tk = .ro ∨ (∃ g,tk = .own g) ∨ w = []) (hs : w ≠ [] -> s = 1) (ht0 : tk.hf = true) (hr : hfL rest = true) (hw : ∀ x ∈ w,U64 x) (hl : w.length <= 1000) (H : Heap) (v : AV) (hv : lendK H 4 v = .sl s w.length (encs u64A w ++ rest) tk) :
   pcx (cbL tab) 10 [lyV f y,v] H = some (.plain (outV (outJ f y w))) :=
 pcx_L rfl (by rw [List.map_cons,List.map_cons,List.map_nil,hv]; rfl) (jof_pc hy w rest s tk htk hs ht0 hr hw hl) (bare_out _)
def partsL : List AV := [.int .i64 1,.fn 139 [],.fn 140 [],.int .i64 64,.int .i64 0,.int .i64 2,.fn 141 [],.fn 142 [],.int .i64 64,.int .i64 0,.int .i64 3,.fn 143 [],.fn 144 [],.int .i64 16,.int .i64 1,
 .int .i64 4,.fn 145 [],.fn 146 [],.int .i64 16,.int .i64 1,.int .i64 5,.fn 147 [],.fn 140 [],.int .i64 64,.int .i64 0,.int .i64 6,.fn 148 [],.fn 149 [],.int .i64 64,.int .i64 (-1)]
theorem lparts_px (H : Heap) : pcx (cbL tab) 126 [] H = some (.plain (.sl 5 6 partsL .ro)) := by
 refine pcx_N rfl (pc_wp (fi := c126) rfl rfl (by simp [c126]) (by decide) ?_)
 unfold c126 partsL
 have e : (-(0 + 1) : Int) = -1 := rfl
 simp (disch := omega) only [wk,tupled,↓reduceIte,reduceEqDiff,reduceEq,reduceAdd,reduceCtorEq,e,purify,unownT,lend,unown,AV.hf,hfL,Tk.hf]
theorem lp2_px (f : Frm) (y : Ly) (H : Heap) : pcx (cbL tab) 141 [lyV f y] H = some (.plain (.int .i64 1)) := by
 refine pcx_N rfl (pc_wp (fi := c141) rfl rfl (by simp [c141]) (by decide) ?_)
 unfold c141
 rw [List.map_cons,List.map_nil,lend_lyV]
 unfold lyV lyA frmA
 simp only [List.cons_append,List.nil_append]
 simp (disch := omega) only [wk,tupled,↓reduceIte,reduceEqDiff,reduceEq,reduceAdd,reduceCtorEq,purify,unownT,lend,unown,AV.hf,hfL,Tk.hf]
theorem lp3_px (f : Frm) (y : Ly) (H : Heap) : pcx (cbL tab) 142 [lyV f y] H = some (.plain (.int .i64 8)) := by
 refine pcx_N rfl (pc_wp (fi := c142) rfl rfl (by simp [c142]) (by decide) ?_)
 unfold c142
 rw [List.map_cons,List.map_nil,lend_lyV]
 unfold lyV lyA frmA
 simp only [List.cons_append,List.nil_append]
 simp (disch := omega) only [wk,tupled,↓reduceIte,reduceEqDiff,reduceEq,reduceAdd,reduceCtorEq,purify,unownT,lend,unown,AV.hf,hfL,Tk.hf]
theorem lat_px (f : Frm) (y : Ly) (n : Int) (h0 : 0 <= n) (h7 : n <= 7) (H : Heap) : pcx (cbL tab) 128 [.agg [.int .i64 2,.fn 141 [],.fn 142 [],.int .i64 64,.int .i64 0],lyV f y,.int .i64 n] H = some (.plain (.int .i64 (64 + n * 64))) := by
 have l2 := fun H => lp2_px f y H
 refine pcx_N rfl (pc_wp (fi := c128) rfl rfl (by simp [c128]) (by decide) ?_)
 unfold c128
 have e : lend (.agg [.int .i64 2,.fn 141 [],.fn 142 [],.int .i64 64,.int .i64 0]) = .agg [.int .i64 2,.fn 141 [],.fn 142 [],.int .i64 64,.int .i64 0] := rfl
 rw [List.map_cons,List.map_cons,List.map_cons,List.map_nil,e,lend_lyV,lend_int]
 unfold lyV lyA frmA at *
 simp only [List.cons_append,List.nil_append] at l2 ⊢
 have e1 : (1 : Int) * 64 = 64 := rfl
 simp (disch := omega) only [wk,tupled,↓reduceIte,reduceEqDiff,reduceEq,reduceAdd,reduceCtorEq,l2,e1,purify,unownT,lend,unown,AV.hf,hfL,Tk.hf]
def placeJ (f : Frm) (y : Ly) (n : Int) : Int × Int := if okY f y then (if 0 <= n /\ n <= 7 then (64 + n * 64,0) else (0,4)) else (0,2)
theorem lplace_px (f : Frm) (y : Ly) (n : Int) (H : Heap) : pcx (cbL tab) 83 [lyV f y,.int .i64 2,.int .i64 n] H = some (.plain (.tup [.int .i64 (placeJ f y n).1,.int .i64 (placeJ f y n).2])) := by
 have lr : ∀ H,pcx (cbL tab) 66 [lyV f y] H = some (.plain (.bool (decide (okY f y)))) := fun H => lright_all f y.k0 y.k1 y.c y.d y.e y.g H
 have l3 := fun H => lp3_px f y H
 have pp := fun H => lparts_px H
 have ip := fun H => lin_px n 0 7 H
 refine pcx_N rfl (pc_wp (fi := c83) rfl rfl (by simp [c83]) (by decide) ?_)
 unfold c83
 rw [List.map_cons,List.map_cons,List.map_cons,List.map_nil,lend_lyV,lend_int,lend_int]
 unfold placeJ
 by_cases h : okY f y
 case neg =>
   rw [decide_eq_false h] at lr
   rw [if_neg h]
   unfold lyV lyA frmA at *
   simp only [List.cons_append,List.nil_append] at lr ⊢
   clear h
   simp (disch := omega) only [wk,tupled,↓reduceIte,reduceEqDiff,reduceEq,reduceAdd,reduceCtorEq,lr,purify,unownT,lend,unown,AV.hf,hfL,Tk.hf]
 rw [decide_eq_true h] at lr
 rw [if_pos h]
 have at7 := fun (a : 0 <= n) (b : n <= 7) H => lat_px f y n a b H
 unfold lyV lyA frmA at *
 unfold partsL at pp
 simp only [List.cons_append,List.nil_append] at lr l3 at7 ⊢
 have i6 : ((6 : Nat) : Int) = 6 := rfl
 clear h
 simp (disch := omega) only [wk,tupled,↓reduceIte,reduceEqDiff,reduceEq,reduceAdd,reduceCtorEq,lr,pp,i6]
 rw [ret_loop]
 simp (disch := omega) only [wk,tupled,↓reduceIte,reduceEqDiff,reduceEq,reduceAdd,reduceCtorEq,i6,Int.reduceToNat,Int.reduceAdd,Int.reduceSub,Int.reduceMul,Int.reduceNeg,Nat.reduceSub,Nat.reduceDiv,lr]
 refine ret_again (by decide) (.inl rfl) ?_
 rw [ret_loop]
 by_cases c : 0 <= n /\ n <= 7
 . rw [if_pos c]
   rw [decide_eq_true c] at ip
   have a7 := fun H => at7 c.1 c.2 H
   simp (disch := omega) only [wk,tupled,↓reduceIte,reduceEqDiff,reduceEq,reduceAdd,reduceCtorEq,i6,Int.reduceToNat,Int.reduceAdd,Int.reduceSub,Int.reduceMul,Int.reduceNeg,Nat.reduceSub,Nat.reduceDiv,lr,l3,ip,Int.sub_zero,a7,purify,unownT,lend,unown,AV.hf,hfL,Tk.hf]
 . rw [if_neg c]
   rw [decide_eq_false c] at ip
   clear c at7
   simp (disch := omega) only [wk,tupled,↓reduceIte,reduceEqDiff,reduceEq,reduceAdd,reduceCtorEq,i6,Int.reduceToNat,Int.reduceAdd,Int.reduceSub,Int.reduceMul,Int.reduceNeg,Nat.reduceSub,Nat.reduceDiv,lr,l3,ip]
   refine ret_again (by decide) (.inl rfl) ?_
   rw [ret_loop]
   simp (disch := omega) only [wk,tupled,↓reduceIte,reduceEqDiff,reduceEq,reduceAdd,reduceCtorEq,i6,Int.reduceToNat,Int.reduceAdd,Int.reduceSub,Int.reduceMul,Int.reduceNeg,Nat.reduceSub,Nat.reduceDiv]
   refine ret_again (by decide) (.inl rfl) ?_
   rw [ret_loop]
   simp (disch := omega) only [wk,tupled,↓reduceIte,reduceEqDiff,reduceEq,reduceAdd,reduceCtorEq,i6,Int.reduceToNat,Int.reduceAdd,Int.reduceSub,Int.reduceMul,Int.reduceNeg,Nat.reduceSub,Nat.reduceDiv]
   refine ret_again (by decide) (.inl rfl) ?_
   rw [ret_loop]
   simp (disch := omega) only [wk,tupled,↓reduceIte,reduceEqDiff,reduceEq,reduceAdd,reduceCtorEq,i6,Int.reduceToNat,Int.reduceAdd,Int.reduceSub,Int.reduceMul,Int.reduceNeg,Nat.reduceSub,Nat.reduceDiv]
   refine ret_again (by decide) (.inl rfl) ?_
   rw [ret_loop]
   simp (disch := omega) only [wk,tupled,↓reduceIte,reduceEqDiff,reduceEq,reduceAdd,reduceCtorEq,i6,Int.reduceToNat,Int.reduceAdd,Int.reduceSub,Int.reduceMul,Int.reduceNeg,Nat.reduceSub,Nat.reduceDiv]
   refine ret_again (by decide) (.inl rfl) ?_
   rw [ret_loop]
   simp (disch := omega) only [wk,tupled,↓reduceIte,reduceEqDiff,reduceEq,reduceAdd,reduceCtorEq,i6,Int.reduceToNat,Int.reduceAdd,Int.reduceSub,Int.reduceMul,Int.reduceNeg,Nat.reduceSub,Nat.reduceDiv,purify,unownT,lend,unown,AV.hf,hfL,Tk.hf]
theorem ljour_px (f : Frm) (y : Ly) (n : Int) (H : Heap) : pcx (cbL tab) 65 [lyV f y,.int .i64 n] H = some (.plain (.tup [.int .i64 (placeJ f y n).1,.int .i64 (placeJ f y n).2])) := by
 have lp := fun H => lplace_px f y n H
 refine pcx_N rfl (pc_wp (fi := c65) rfl rfl (by simp [c65]) (by decide) ?_)
 unfold c65
 rw [List.map_cons,List.map_cons,List.map_nil,lend_lyV,lend_int]
 unfold lyV lyA frmA at *
 simp only [List.cons_append,List.nil_append] at lp ⊢
 simp (disch := omega) only [wk,tupled,↓reduceIte,reduceEqDiff,reduceEq,reduceAdd,reduceCtorEq,lp,purify,unownT,lend,unown,AV.hf,hfL,Tk.hf]
def clientJ (f : Frm) (y : Ly) (n : Int) : Prop := okY f y /\ 0 <= n /\ n <= 7
instance (f : Frm) (y : Ly) (n : Int) : Decidable (clientJ f y n) := inferInstanceAs (Decidable (_ /\ _))
theorem jplace_px (f : Frm) (y : Ly) (n : Int) (H : Heap) : pcx (cbL tab) 46 [lyV f y,.int .i64 n] H = some (if clientJ f y n then .plain (.int .i64 (64 + n * 64)) else panJ 2) := by
 have lp := fun H => ljour_px f y n H
 have mt := fun H => jmust_t 2 H
 have mf := fun H => jmust_f 2 H
 have pj : ∀ H : Heap,purify (some (.pan [(.iface 35 (.int .i64 2),false)],H)) = some (panJ 2) := fun H => rfl
 unfold panJ at mf
 refine pcx_N rfl (pc_wp (fi := c46) rfl rfl (by simp [c46]) (by decide) ?_)
 unfold c46
 rw [List.map_cons,List.map_cons,List.map_nil,lend_lyV,lend_int]
 by_cases c : clientJ f y n
 . have e : placeJ f y n = (64 + n * 64,0) := by unfold placeJ; rw [if_pos c.1,if_pos c.2]
   rw [e] at lp
   rw [if_pos c]
   clear c e
   unfold lyV lyA frmA at *
   simp only [List.cons_append,List.nil_append] at lp ⊢
   simp (disch := omega) only [wk,tupled,↓reduceIte,reduceEqDiff,reduceEq,reduceAdd,reduceCtorEq,lp,mt,purify,unownT,lend,unown,AV.hf,hfL,Tk.hf]
 . have e : ∃ x,placeJ f y n = (0,x) /\ ¬ x = 0 := by
     unfold placeJ
     by_cases h : okY f y
     . rw [if_pos h,if_neg (fun h2 => c ⟨h,h2⟩)]; exact ⟨4,rfl,by decide⟩
     . rw [if_neg h]; exact ⟨2,rfl,by decide⟩
   obtain ⟨x,e,hx⟩ := e
   rw [e] at lp
   rw [if_neg c]
   clear c e
   unfold lyV lyA frmA at *
   simp only [List.cons_append,List.nil_append] at lp ⊢
   simp (disch := omega) only [wk,tupled,↓reduceIte,reduceEqDiff,reduceEq,reduceAdd,reduceCtorEq,lp,hx,mf,pj]
def strikeJ (f : Frm) (y : Ly) (n : Int) : List (Int × Int) × Int := if clientJ f y n then ([(64 + n * 64,0)],0) else ([],2)
def putsV (x : List (Int × Int) × Int) : AV := .tup [slvR 2 putA x.1,.int .i64 x.2]
theorem jclear3 (o : Nat) (x : AV) (H : Heap) (hx : H[o]? = some (.cells [x])) : enterA (cbL tab) 47 [.ptr o 0] H = some (.ret (.tup []),H.set o (.cells [.sl 0 0 [] .z])) := by
 have : ∃ q H',(cbL tab).ic 47 [.ptr o 0] H = some (q,H') /\ q = .ret (.tup []) /\ H' = H.set o (.cells [.sl 0 0 [] .z]) := by
   refine ic_wp (fi := c47) rfl rfl (by simp [c47]) (by decide) ?_
   unfold c47
   simp (disch := omega) only [wk,tupled,↓reduceIte,reduceEqDiff,reduceEq,reduceAdd,reduceCtorEq,hx,List.append_nil]
 obtain ⟨q,H',h,rfl,rfl⟩ := this
 exact enterA_ic rfl (pc_none (fi := c47) rfl rfl) h
theorem jstrike_px (f : Frm) (y : Ly) (n : Int) (H : Heap) : pcx (cbL tab) 20 [lyV f y,.int .i64 n] H = some (.plain (putsV (strikeJ f y n))) := by
 have pp := fun H => jplace_px f y n H
 refine pcx_N rfl (pc_wp (fi := c20) rfl rfl (by simp [c20]) (by decide) ?_)
 unfold c20
 rw [List.map_cons,List.map_cons,List.map_nil,lend_lyV,lend_int]
 unfold strikeJ putsV
 by_cases c : clientJ f y n
 . rw [if_pos c] at pp ⊢
   have e : slvR 2 putA [(64 + n * 64,(0 : Int))] = .sl 2 1 [.int .i64 (64 + n * 64),.int .u64 0] .ro := rfl
   dsimp only
   rw [e]
   clear c
   unfold lyV lyA frmA at *
   simp only [List.cons_append,List.nil_append] at pp ⊢
   simp (disch := omega) only [wk,tupled,↓reduceIte,reduceEqDiff,reduceEq,reduceAdd,reduceCtorEq,pp]
   rw [ends_left_ret (jcaught_ret _ _ _ _)]
   simp (disch := omega) only [wk,tupled,↓reduceIte,reduceEqDiff,reduceEq,reduceAdd,reduceCtorEq,purify,unownT,lend,unown,AV.hf,hfL,Tk.hf]
 . rw [if_neg c] at pp ⊢
   have e : slvR 2 putA ([] : List (Int × Int)) = .sl 0 0 [] .z := rfl
   dsimp only
   rw [e]
   unfold panJ at pp
   clear c
   unfold lyV lyA frmA at *
   simp only [List.cons_append,List.nil_append] at pp ⊢
   simp (disch := omega) only [wk,tupled,↓reduceIte,reduceEqDiff,reduceEq,reduceAdd,reduceCtorEq,pp]
   rw [ends_left_pan (jcaught_pan 2 _ _ _ _ _ _ _ (jclear3 1 _ _ rfl) rfl)]
   simp (disch := omega) only [wk,tupled,↓reduceIte,reduceEqDiff,reduceEq,reduceAdd,reduceCtorEq,purify,unownT,lend,unown,AV.hf,hfL,Tk.hf]
end Go.Proofs.YtobhofmicgmjfaaGreat
namespace Go.Proofs.YtobhofmicgmjfaaGreat
open Go Go.Am Go.Rec
theorem rmore_px {s : Int} (hs : U64 s) (l : List UInt8) (hl : l.length <= 100000) (tk : Tk) (H : Heap) : pcx (cbL tab) 77 [.int .u64 s,.sl 1 l.length (encs byA l) tk] H = some (.plain (.int .u64 (moreM s l))) := by
 obtain ⟨u1,e1,f1⟩ := lend_sl 1 l.length (encs byA l) tk
 have hfb : hfL (encs byA l) = true := hfL_encs (fun _ => rfl) l
 refine pcx_N rfl (pc_wp (fi := c77) rfl ?_ (by simp [c77]) (by decide) ?_)
 . simp only [pcOn,List.map_cons,List.map_nil,hfL,hf_lend_sl,hf_lend_int,hf_lend_bool,hf_lend_str,hfL_append,Bool.and_self,Bool.and_true,Bool.true_and,c77,hfb]
 unfold c77
 rw [List.map_cons,List.map_cons,List.map_nil,e1,lend_int]
 have un : unV .xor (.int .u64 s) = some (.int .u64 (xorI ones s)) := u64_not hs.1 hs.2
 have hr0 : U64 (xorI ones s) := ones_ok.x hs
 simp (disch := omega) only [wk,tupled,↓reduceIte,reduceEqDiff,reduceEq,reduceAdd,reduceCtorEq,un]
 refine loop_ind (fun (x : List UInt8 × List UInt8) E df H1 => l = x.1 ++ x.2 /\ E 1 = .sl 1 l.length (encs byA l) u1 /\ E 5 = .int .u64 (foldM x.1 (xorI ones s)) /\ E 6 = .int .i64 (x.1.length : Nat) /\ df = [])
   (fun x => x.2.length) ([],l) (by decide) (.inl rfl) ⟨rfl,rfl,rfl,rfl,rfl⟩ ?_
 intro ⟨pre,suf⟩ E df H1 ih hP
 obtain ⟨a1,E1,E5,E6,hdf⟩ := hP
 dsimp only at a1 E5 E6
 subst hdf
 have la : l.length = pre.length + suf.length := by rw [a1,List.length_append]
 have fo := foldM_ok pre hr0
 cases suf with
 | nil =>
   rw [List.append_nil] at a1
   subst a1
   have n1 : ¬ (l.length : Int) < (l.length : Int) := by omega
   have un2 : unV .xor (.int .u64 (foldM l (xorI ones s))) = some (.int .u64 (moreM s l)) := u64_not fo.1 fo.2
   simp (disch := omega) only [wk,tupled,↓reduceIte,reduceEqDiff,reduceEq,reduceAdd,reduceCtorEq,E1,E5,E6,n1,un2,purify,unownT,lend,unown,AV.hf,hfL]
 | cons x r =>
   simp only [List.length_cons] at la
   have d1 : List.drop pre.length (encs byA l) = .int .u8 (x.toNat : Nat) :: encs byA r := by
     have := tdrop pre x r
     rw [Nat.mul_one] at this
     rw [a1,this]
   have n1 : (pre.length : Int) < (l.length : Int) := by omega
   have hb := by_u64 x
   have xp : ∀ {xo yo : X} {ek : EqK},binV .xor ek xo yo (.int .u64 (foldM pre (xorI ones s))) (.int .u64 (x.toNat : Nat)) = some (.int .u64 (xorI (foldM pre (xorI ones s)) x.toNat)) := fun {xo yo ek} => u64_xor fo.1 fo.2 hb.1 hb.2
   have wr : IntKind.u64.wrap (x.toNat : Int) = (x.toNat : Int) := wrap_u64 hb.1 hb.2
   have hx := fo.x hb
   simp (disch := omega) only [wk,tupled,↓reduceIte,reduceEqDiff,reduceEq,reduceAdd,reduceCtorEq,E1,E5,E6,n1,d1,xp,wr]
   have e8 : foldM (pre ++ [x]) (xorI ones s) = itM 8 (xorI (foldM pre (xorI ones s)) x.toNat) := by
     unfold foldM
     rw [List.foldl_append]
     rfl
   generalize xorI (foldM pre (xorI ones s)) x.toNat = q0 at hx e8 ⊢
   refine loop_ind (fun (y : Nat × Int) F df H => y.1 <= 8 /\ U64 y.2 /\ itM 8 q0 = itM (8 - y.1) y.2 /\ F 1 = .sl 1 l.length (encs byA l) u1 /\ F 5 = .int .u64 y.2 /\ F 6 = .int .i64 (pre.length : Nat) /\ F 7 = .int .i64 (y.1 : Nat) /\ df = [])
     (fun y => 8 - y.1) (0,q0) (by decide) (.inl rfl) ⟨by omega,hx,rfl,by simp only [en,↓reduceIte,reduceEqDiff,E1],rfl,by simp only [en,↓reduceIte,reduceEqDiff,E6],rfl,rfl⟩ ?_
   intro ⟨j,q⟩ F df H2 ih2 hQ
   obtain ⟨b1,b2,b3,F1,F5,F6,F7,hdf⟩ := hQ
   dsimp only at b1 b2 b3 F5 F7
   subst hdf
   by_cases hj : j < 8
   . have n2 : (j : Int) < 8 := by omega
     have p0 := b2.1
     have p1 := b2.2
     have hr2 : U64 (q / 2) := ⟨by have := b2.1; omega,by have := b2.2; have := b2.1; omega⟩
     have xq : ∀ {xo yo : X} {ek : EqK},binV .xor ek xo yo (.int .u64 (q / 2)) (.int .u64 14514072000185962306) = some (.int .u64 (xorI (q / 2) polyI)) := fun {xo yo ek} => u64_xor hr2.1 hr2.2 (by decide) (by decide)
     have b4 : itM 8 q0 = itM (8 - (j + 1)) (stepM q) := by rw [b3,show 8 - j = (8 - (j + 1)) + 1 by omega]; rfl
     have so := stepM_ok b2
     by_cases h : q % 2 = 1
     . have sq : stepM q = xorI (q / 2) polyI := if_pos h
       simp (disch := omega) only [wk,tupled,↓reduceIte,reduceEqDiff,reduceEq,reduceAdd,reduceCtorEq,F1,F5,F6,F7,n2,xq,h]
       refine ih2 (j + 1,stepM q) _ _ _ (by dsimp only; omega) ⟨by dsimp only; omega,so,b4,by simp only [en,↓reduceIte,reduceEqDiff,F1],by dsimp only; rw [sq]; simp only [en,↓reduceIte,reduceEqDiff],by simp only [en,↓reduceIte,reduceEqDiff,F6],by simp only [en,↓reduceIte,reduceEqDiff],rfl⟩
     . have sq : stepM q = q / 2 := if_neg h
       simp (disch := omega) only [wk,tupled,↓reduceIte,reduceEqDiff,reduceEq,reduceAdd,reduceCtorEq,F1,F5,F6,F7,n2,xq,h]
       refine ih2 (j + 1,stepM q) _ _ _ (by dsimp only; omega) ⟨by dsimp only; omega,so,b4,by simp only [en,↓reduceIte,reduceEqDiff,F1],by dsimp only; rw [sq]; simp only [en,↓reduceIte,reduceEqDiff],by simp only [en,↓reduceIte,reduceEqDiff,F6],by simp only [en,↓reduceIte,reduceEqDiff],rfl⟩
   . obtain rfl : j = 8 := by omega
     have e9 : itM (8 - 8) q = q := rfl
     rw [e9,<- e8] at b3
     have n2 : ¬ ((8 : Nat) : Int) < 8 := by omega
     simp (disch := omega) only [wk,tupled,↓reduceIte,reduceEqDiff,reduceEq,reduceAdd,reduceCtorEq,F1,F5,F6,F7,n2]
     refine ih (pre ++ [x],r) _ _ _ (by simp) ⟨by simp [a1],by simp only [en,↓reduceIte,reduceEqDiff,F1],by dsimp only; rw [b3]; simp only [en,↓reduceIte,reduceEqDiff,F5],by simp only [en,↓reduceIte,reduceEqDiff],rfl⟩
theorem rwsum_px {l : List Int} (h0 : l ≠ []) (hl : l.length <= 100) (hw : ∀ w ∈ l,U64 w) (tk : Tk) (H : Heap) : pcx (cbL tab) 61 [.sl 1 l.length (encs u64A l) tk] H = some (.plain (.int .u64 (moreM 0 (bytM l)))) := by
 obtain ⟨u1,e1,f1⟩ := lend_sl 1 l.length (encs u64A l) tk
 have hfu : hfL (encs u64A l) = true := hfL_encs (fun _ => rfl) l
 refine pcx_N rfl (pc_wp (fi := c61) rfl ?_ (by simp [c61]) (by decide) ?_)
 . simp only [pcOn,List.map_cons,List.map_nil,hfL,hf_lend_sl,hf_lend_int,hf_lend_bool,hf_lend_str,hfL_append,Bool.and_self,Bool.and_true,Bool.true_and,c61,hfu]
 unfold c61
 rw [List.map_cons,List.map_nil,e1]
 have bp := fun H => rbytes_px l [] 1 u1 H hl rfl rfl hw
 rw [List.append_nil,prRow_ne (bytM_ne h0)] at bp
 have bl := bytM_len l
 have sp := fun g H => rmore_px (s := 0) ⟨by decide,by decide⟩ (bytM l) (by omega) (.own g) H
 simp (disch := omega) only [wk,tupled,↓reduceIte,reduceEqDiff,reduceEq,reduceAdd,reduceCtorEq,bp,sp,purify,unownT,lend,unown,AV.hf,hfL]
theorem rseal_px {l : List Int} (h0 : l ≠ []) (hl : l.length <= 100) (hw : ∀ w ∈ l,U64 w) {tk : Tk} (ht : tk = .ro ∨ ∃ g,tk = .own g) (H : Heap) :
   pcx (cbL tab) 40 [.sl 1 l.length (encs u64A l) tk] H = some (.fresh 1 (sealM l).length (encs u64A (sealM l))) := by
 have el : lend (.sl 1 l.length (encs u64A l) tk) = .sl 1 l.length (encs u64A l) .ro := by rcases ht with rfl | ⟨g,rfl⟩ <;> rfl
 have hfu : hfL (encs u64A l) = true := hfL_encs (fun _ => rfl) l
 have n0 : l.length ≠ 0 := fun e => h0 (List.eq_nil_of_length_eq_zero e)
 refine pcx_N rfl (pc_wp (fi := c40) rfl ?_ (by simp [c40]) (by decide) ?_)
 . show hfL [lend _] = true
   rw [el]
   simp [hfL,AV.hf,hfu,Tk.hf]
 unfold c40
 rw [List.map_cons,List.map_nil,el]
 have wp := fun H => rwsum_px h0 hl hw .ro H
 have own0 : Own ([] : Heap) 1 (.sl 1 0 [] .e) 0 [] := .inl ⟨.inr rfl,rfl,rfl⟩
 simp (disch := omega) only [wk,tupled,↓reduceIte,reduceEqDiff,reduceEq,reduceAdd,reduceCtorEq]
 refine runX_app own0 (by omega) (by omega) (by omega) n0 (by rw [lenU]; omega) (one_u64A _) (fun H2 q1 q2 q3 => ?_)
 simp only [Nat.zero_add,List.nil_append] at q1 q2 q3 ⊢
 simp (disch := omega) only [wk,tupled,↓reduceIte,reduceEqDiff,reduceEq,reduceAdd,reduceCtorEq,wp]
 refine runX_app q1 (by omega) (by omega) (by omega) (by omega) rfl rfl (fun H3 r1 r2 r3 => ?_)
 have ee : encs u64A l ++ [.int .u64 (moreM 0 (bytM l))] = encs u64A (sealM l) := by unfold sealM; rw [encs_append]; rfl
 have eln : l.length + 1 = (sealM l).length := by unfold sealM; simp
 rw [ee,eln] at r1 ⊢
 have hne : sealM l ≠ [] := by unfold sealM; simp
 simp (disch := omega) only [wk,tupled,↓reduceIte,reduceEqDiff,reduceEq,reduceAdd,reduceCtorEq]
 rw [<- prRow_ne (f := u64A) (sz := 1) hne]
 exact purify_row (fun _ => rfl) r1 (fun e => absurd e hne)
end Go.Proofs.YtobhofmicgmjfaaGreat
namespace Go.Proofs.YtobhofmicgmjfaaGreat
open Go Go.Am Go.Rec Go.Ino
theorem rthere21_px (n m : Int) (H : Heap) : pcx (cbL tab) 44 [.int .i64 n,.int .i64 m] H = some (.plain (.bool (decide (1 <= n /\ n <= m)))) := by
 refine pcx_N rfl (pc_wp (fi := c44) rfl rfl (by simp [c44]) (by decide) ?_)
 unfold c44
 rw [List.map_cons,List.map_cons,List.map_nil,lend_int,lend_int]
 by_cases h1 : 1 <= n <;> by_cases h2 : n <= m <;> simp (disch := omega) only [wk,tupled,↓reduceIte,reduceEqDiff,reduceEq,reduceAdd,reduceCtorEq,h1,h2,purify,unownT,lend,unown,AV.hf,and_false,false_and]
theorem rlist21_px (ws : List Int) (hl : ws.length = 16) (H : Heap) : pcx (cbL tab) 43 [arrV ws] H = some (prRow 1 u64A ws) := by
 refine pcx_N rfl (pc_wp (fi := c43) rfl ?_ (by simp [c43]) (by decide) ?_)
 . simp only [pcOn,List.map_cons,List.map_nil,hfL,hf_lend_sl,hf_lend_int,hf_lend_bool,hf_lend_str,hfL_append,Bool.and_self,Bool.and_true,Bool.true_and,c43,lend_arr,hf_arr]
 unfold c43
 rw [List.map_cons,List.map_nil,lend_arr,arrV]
 have o := one_u64A ws
 have lw := lenU ws
 simp (disch := omega) only [wk,tupled,↓reduceIte,reduceEqDiff,reduceEq,reduceAdd,reduceCtorEq,o,flat_arr,lw,hl]
 refine loop_ind (fun (x : List Int × List Int) E df H1 => ws = x.1 ++ x.2 /\ H1[0]? = some (.cells (encs u64A ws)) /\ E 1 = .ptr 0 0 /\ Own H1 1 (E 3) x.1.length (encs u64A x.1) /\ (∀ s n c,E 3 ≠ .sl s n c .e) /\ E 4 = .int .i64 (x.1.length : Nat) /\ df = [])
   (fun x => x.2.length) ([],ws) (by decide) (.inl rfl) ⟨rfl,rfl,rfl,.inl ⟨.inl rfl,rfl,rfl⟩,(by intro s n c h; cases h),rfl,rfl⟩ ?_
 intro ⟨pre,suf⟩ E df H1 ih hP
 obtain ⟨a1,h0,E1,ho,hne,E4,hdf⟩ := hP
 dsimp only at a1 ho E4
 subst hdf
 have hl2 : ws.length = pre.length + suf.length := by rw [a1,List.length_append]
 cases suf with
 | nil =>
   rw [List.append_nil] at a1
   subst a1
   have n1 : ¬ (ws.length : Int) < 16 := by omega
   simp (disch := omega) only [wk,tupled,↓reduceIte,reduceEqDiff,reduceEq,reduceAdd,reduceCtorEq,E1,E4,n1,purify_row (fun _ => rfl) ho (fun _ => hne)]
 | cons x r =>
   simp only [List.length_cons] at hl2
   have n1 : (pre.length : Int) < 16 := by omega
   have g := getU1 pre x r
   rw [<- a1] at g
   simp (disch := omega) only [wk,tupled,↓reduceIte,reduceEqDiff,reduceEq,reduceAdd,reduceCtorEq,E1,E4,n1,h0,g,Nat.zero_add]
   refine runX_app ho (by omega) (by omega) (by omega) (by omega) rfl rfl (fun H2 q1 q2 q3 => ?_)
   have h02 := q2.cells ho rfl h0 (by intro s h; cases h)
   simp (disch := omega) only [wk,tupled,↓reduceIte,reduceEqDiff,reduceEq,reduceAdd,reduceCtorEq,E1,E4]
   refine ih (pre ++ [x],r) _ _ _ (by simp) ?_
   have ee : encs u64A pre ++ [.int .u64 x] = encs u64A (pre ++ [x]) := by rw [encs_append]; rfl
   have el : pre.length + 1 = (pre ++ [x]).length := by rw [List.length_append]; rfl
   rw [ee,el] at q1
   refine ⟨by simp [a1],h02,by simp only [en,↓reduceIte,reduceEqDiff,E1], ?_, ?_,by simp only [en,↓reduceIte,reduceEqDiff],rfl⟩
   . simp only [upd_app,updD_some,updD_none,↓reduceIte,Nat.reduceEqDiff,if_true,if_false]
     rw [ee,el]
     exact q1
   . simp only [en,↓reduceIte,reduceEqDiff]
     intro s n c h
     cases h
end Go.Proofs.YtobhofmicgmjfaaGreat
