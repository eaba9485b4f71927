/- TEXTS OF THE WALKS, put together: IW I0 I1 I2 I3 E3 E4 E6 E8 D1 B2 M1 B1 KE SM NoM S1 S6 S12 L5 N4 R3 N7 BD1. No condition but those stated. -/
import Derived.Test.YtogbblcnfcfflaaGreatAmSet
import Derived.Test.YtogbblcnfcfflaaGreatIFuns
import Derived.KernelRfl
import Derived.Test.YtogbblcnfcfflaaGreatP1
import Derived.Test.YtogbblcnfcfflaaGreatAmFast
import Derived.Test.YtogbblcnfcfflaaGreatAmRng
open Int (reduceEq)
open Nat (reduceEqDiff reduceAdd reduceMul reduceLT reduceLeDiff)
set_option linter.all false
set_option maxHeartbeats 8000000
set_option maxRecDepth 1000000
namespace Go.Proofs.YtogbblcnfcfflaaGreat
open Go Go.Am
def isTrueR:Option PR->Bool
 |some (.plain (.bool true))=>true
 |_=>false
end Go.Proofs.YtogbblcnfcfflaaGreat
namespace Go.Proofs.YtogbblcnfcfflaaGreat
open Go Go.Am Go.Rec Go.Ino
def isPlain (v:Option PR) (n:Int):Bool:=
 match v with
 |some (.plain (.int .u64 m))=>m==n
 |_=>false
def maskN (a d:Nat):Nat:=(2^d-1)*2^a
def linkedM (w k:Int):Int×Int:=if w<4294967296/\(1<=w % 256/\w % 256<=3)/\(0<=k/\k<=65535)then(w % 256+256*k,0)else(0,240)
def linkedR (x:Int×Int):AV:= .tup [.int .u64 x.1,.int .i64 x.2]
theorem lenE (l:List Ext):(encs extA l).length=l.length*3:=encs_length (k:=3) l
def MapR (m:AV) (l:List Ext):Prop:=∃s rest tk,m= .sl s l.length (encs extA l++rest) tk/\(l≠[]->s=3)/\hfL rest=true/\tk.hf=true
def inoA (n:Ino) (m:AV):AV:= .agg [.int .i64 n.kind,.int .i64 n.links,.int .i64 n.size,m,.int .i64 n.root,.int .i64 n.parent,.str n.target]
theorem MapR.unown {m:AV} {l:List Ext} (h:MapR m l):unown m=m:=by
 obtain⟨s,rest,tk,rfl,_,_,ht⟩:=h
 cases tk<;>first|rfl|cases ht
theorem MapR.hf {m:AV} {l:List Ext} (h:MapR m l):m.hf=true:=by
 obtain⟨s,rest,tk,rfl,_,hr,ht⟩:=h
 simp[AV.hf,hfL_append,hf_extA,hr,ht]
theorem MapR.one {m:AV} {l:List Ext} (h:MapR m l):m.flat=[m]/\m.one=true:=by
 obtain⟨s,rest,tk,rfl,_,hr,ht⟩:=h
 exact⟨rfl,rfl⟩
def sameB (a b:Ino):Bool:=decide (a.kind=b.kind/\a.links=b.links/\a.size=b.size/\a.map=b.map/\a.root=b.root/\a.parent=b.parent/\a.target=b.target)
def rightA (x:Ext):Prop:=0<=x.1/\x.1<128/\1<=x.2.2/\x.2.2<=128-x.1
def rightB (x:Ext):Prop:=1<=x.2.1/\x.2.1<2048/\x.2.2<=2048-x.2.1
instance (x : Ext) : Decidable (rightA x) := inferInstanceAs (Decidable (_ /\ _ /\ _ /\ _))
instance (x : Ext) : Decidable (rightB x) := inferInstanceAs (Decidable (_ /\ _ /\ _))
def cellsX (x:Ext):List AV:=[.int .i64 x.1,.int .i64 x.2.1,.int .i64 x.2.2]
def extV (x:Ext):AV:= .agg (cellsX x)
def wrongM (l:List Ext):Bool:=l.any fun x=> !decide (rightM x)
def idxW:List Ext->Int->Int
 |[],_=> -1
 |x::r,k=>if rightM x then idxW r (k+1)else k
def SmallE (x:Ext):Prop:=0<=x.1/\x.1+x.2.2<=128/\0<=x.2.1/\x.2.1<2048/\0<=x.2.2
def RowE (H:Heap) (v:AV) (l:List Ext):Prop:=(l=[]/\v= .sl 0 0 [] .z)∨(l≠[]/\∃id,v= .rsl 3 id l.length/\H[id]? =some (.cells (encs extA l)))
def From (b0:Nat) (v:AV):Prop:=∀k n,v= .rsl 3 k n->b0<=k
def ents (ds:List Int):List (AV×AV):=ds.map fun d=>(.int .i64 d,.int .i64 1)
theorem encs_map1 (t:List Int):encs i64A t=t.map (AV.int .i64):=by
 induction t with
 |nil=>rfl
 |cons x r ih=>rw[encs_cons,ih];rfl
def ofR (l:List Ext):List Int×Bool:=match ofM l with
 |some t=>(t,true)
 |none=>(t0,false)
def tabV (t:List Int):AV:= .agg (encs i64A t)
def ofV (x:List Int×Bool):AV:= .tup [tabV x.1,.bool x.2]
theorem unown_encsI (t:List Int):(encs i64A t).map unown=encs i64A t:=by
 rw[encs_map1,List.map_map]
 congr 1
theorem unownT_tab (t:List Int) (b:Bool):unownT (.tup [.agg (encs i64A t),.bool b])= .tup [.agg (encs i64A t),.bool b]:=by
 simp only[unownT,List.map_cons,List.map_nil,lend,unown_encsI,unown]
theorem purify_of (t:List Int) (b:Bool) (H:Heap):purify (some (.ret (.tup [.agg (encs i64A t),.bool b]),H))=some (.plain (ofV (t,b))):=by
 have h:(AV.tup [.agg (encs i64A t),.bool b]).hf=true:=by
   simp[AV.hf,hf_i64A,hfL]
 show(if(unownT (.tup [.agg (encs i64A t),.bool b])).hf then some (PR.plain (unownT (.tup [.agg (encs i64A t),.bool b])))else none)=_
 rw[unownT_tab,if_pos h];rfl
theorem lendE (H:Heap) (k:Nat) (w:List Ext):(encs extA w).map (lendK H k)=encs extA w:=by
 induction w with
 |nil=>rfl
 |cons x r ih=>rw[encs_cons,List.map_append,ih,extA,List.map_cons,List.map_cons,List.map_cons,List.map_nil,lendK_int,lendK_int,lendK_int]
theorem RowE.lent {H:Heap} {v:AV} {l:List Ext} (h:RowE H v l):∃s,lendK H 4 v= .sl s l.length (encs extA l++[]) (if l.isEmpty then .z else .ro)/\(l≠[]->s=3):=by
 rcases h with⟨rfl,rfl⟩|⟨hne,id,rfl,hid⟩
 . exact⟨0,rfl,fun h=>absurd rfl h⟩
 . refine⟨3, ?_,fun _=>rfl⟩
   show(match H[id]? with
     |some (AObj.cells cs)=>if l.length*3<=cs.length then AV.sl 3 l.length ((cs.take (l.length*3)).map (lendK H 3)) .ro else AV.rsl 3 id l.length
     |_=>AV.rsl 3 id l.length)=_
   rw[hid]
   simp only[lenE,Nat.le_refl,if_true]
   rw[List.take_of_length_le (by rw[lenE];exact Nat.le_refl _),lendE,List.append_nil]
   have:l.isEmpty=false:=by cases l with
     |nil=>exact absurd rfl hne
     |cons _ _=>rfl
   rw[this];rfl
theorem RowE.pure {H:Heap} {v:AV} {l:List Ext} (h:RowE H v l):purify (some (.ret v,H))=some (prRow 3 extA l):=by
 rcases h with⟨rfl,rfl⟩|⟨hne,id,rfl,hid⟩
 . rfl
 . have h1:l.isEmpty=false:=by cases l with
     |nil=>exact absurd rfl hne
     |cons _ _=>rfl
   have h2:l.length≠0:=fun h=>hne (List.length_eq_zero_iff.1 h)
   simp only[purify,hid,prRow,h1,lenE,hf_extA,Bool.false_eq_true,if_false]
   rw[if_pos ⟨trivial,h2,trivial⟩]
theorem pc_wpE {tab:FuncId->Option AFun} {f:FuncId} {fi:AFun} {args:List AV} {R:PR->Prop} (ht:tab f=some fi) (hon:pcOn fi args=true) (hl:args.length<=fi.np) (hf:fi.body.fits fi.np=true)
   (h:Ret (cbL tab) none fi.np (Go.Am.Ends tab fi.res fun o H=>∃r,purify (some (o,H))=some r/\R r) [.code fi.body] .normal (argE (args.map lend)) [] []) (hcon:fi.con=none:=by rfl) (hm:fi.mode≠5:=by decide):∃r,(cbL tab).pc f args=some r/\R r:=by
 rw[<-EV_fr0 fi.np]at h
 obtain⟨o,H',h1,r,h2,h3⟩:=body_wp (by rw[List.length_map];exact hl) hf h
 refine⟨r, ?_,h3⟩
 apply pc_of
 rw[pcA,ht]
 simp only[hcon]
 simp only[hon,if_true]
 rw[h1,if_neg hm,h2]
def OfP (l:List Ext) (r:PR):Prop:=∃t b,r= .plain (ofV (t,b))/\Tab t/\b=(ofM l).isSome/\(∀t',ofM l=some t'->t=t')
theorem OfP.no {l:List Ext} {t:List Int} {H:Heap} (h:ofM l=none) (hT:Tab t):∃r,purify (some (.ret (.tup [.agg (encs i64A t),.bool false]),H))=some r/\OfP l r:=
 ⟨_,purify_of t false H,t,false,rfl,hT,by rw[h];rfl,fun t' e=>by rw[h]at e;cases e⟩
def errE (l:List Ext):Int:=if(ofM l).isSome then 0 else 2
theorem lenU (l:List Int):(encs u64A l).length=l.length:=by rw[encs_length (k:=1),Nat.mul_one]
theorem encs_mapU (t:List Int):encs u64A t=t.map (AV.int .u64):=by
 induction t with
 |nil=>rfl
 |cons x r ih=>rw[encs_cons,ih];rfl
theorem setU (t:List Int) (i:Nat) (v:Int) (h:i<t.length):List.take i (encs u64A t)++[AV.int .u64 v]++List.drop (i+1) (encs u64A t)=encs u64A (t.set i v):=by
 rw[encs_mapU,encs_mapU,List.map_set,List.append_assoc,List.set_eq_take_append_cons_drop,if_pos (by simpa using h)]
 rfl
def fieldsA (x:Ext):List AV:=[.int .i64 16,.int .i64 x.1,.int .i64 24,.int .i64 x.2.1,.int .i64 16,.int .i64 x.2.2]
def arrV (w:List Int):AV:= .agg (encs u64A w)
def xwR (l:List Ext):List Int×Int:=if(ofM l).isSome then(wordsE l,0)else(wordsE [],2)
def xwV (x:List Int×Int):AV:= .tup [arrV x.1,.int .i64 x.2]
def layD:List AV:=[.int .i64 64,.int .i64 8,.int .i64 64,.int .i64 8,.int .u64 1,.int .u64 2,.int .i64 9,.int .i64 11,.int .i64 27,.int .i64 28]
def stW (W:List Int) (l:List (Int×Int)):List Int:=l.foldl (fun w p=>w.set p.1.toNat p.2) W
def mvP (a:Int) (l:List (Int×Int)):List (Int×Int):=l.map fun p=>(p.1+a,p.2)
structure UAt (H:Heap) (u w:Nat) (W:List Int) (out:List (Int×Int)):Prop where
 ne:u≠w
 wd:H[w]? =some (.cells (encs u64A W))
 ob:∃v,H[u]? =some (.cells (layD++[.msl 1 w 0 W.length,v]))/\Own H 2 v out.length (encs putA out)/\∀a b c,v≠ .sl a b c .e
structure UKeep (u w:Nat) (H H':Heap):Prop where
 keep:∀i o,i≠u->i≠w->(∀s,o≠ .tok s)->H[i]? =some o->H'[i]? =some o
 len:H.length<=H'.length
theorem UKeep.refl (u w:Nat) (H:Heap):UKeep u w H H:=⟨fun _ _ _ _ _ h=>h,Nat.le_refl _⟩
theorem UKeep.trans {u w:Nat} {A B C:Heap} (h:UKeep u w A B) (k:UKeep u w B C):UKeep u w A C:=
 ⟨fun i o h1 h2 h3 h4=>k.keep i o h1 h2 h3 (h.keep i o h1 h2 h3 h4),Nat.le_trans h.len k.len⟩
theorem set_eqU {H:Heap} {i:Nat} {o p:AObj} (h:H[i]? =some o):(H.set i p)[i]? =some p:=List.getElem?_set_self (List.getElem?_eq_some_iff.1 h).1
theorem set_neU {H:Heap} {i j:Nat} {p:AObj} (h:i≠j):(H.set i p)[j]? =H[j]? :=List.getElem?_set_ne h
def stA (W:List Int) (p:Int×Int):List Int:=if 0<=p.1/\p.1<W.length then W.set p.1.toNat p.2 else W
def apW (W:List Int) (l:List (Int×Int)):List Int:=l.foldl stA W
theorem stA_len (W:List Int) (p:Int×Int):(stA W p).length=W.length:=by
 unfold stA
 split
 . rw[List.length_set]
 . rfl
theorem apW_len:∀(l:List (Int×Int)) (W:List Int),(apW W l).length=W.length
 |[],_=>rfl
 |p::l,W=>(apW_len l (stA W p)).trans (stA_len W p)
theorem scal_u64A (W:List Int):(encs u64A W).all (·.scal)=true:=by
 rw[List.all_eq_true]
 intro x hx
 obtain⟨y,_,hy⟩:=List.mem_flatMap.1 hx
 simp only[u64A,List.mem_singleton]at hy
 subst hy
 rfl
theorem apply_pc2 (W:List Int) (l:List (Int×Int)) (rest:List AV) (hr:hfL rest=true) (s:Nat) (t1 tk:Tk) (h0:W≠[]) (hW:W.length<=1000000) (hl:l.length<=1000000) (hs:l≠[]->s=2):
   (cbL tab).pc 15 [.sl 1 W.length (encs u64A W) t1,.sl s l.length (encs putA l++rest) tk]=some (.fresh 1 W.length (encs u64A (apW W l))):=by
 obtain⟨u1,e1,f1⟩:=lend_sl 1 W.length (encs u64A W) t1
 obtain⟨u2,e2,f2⟩:=lend_sl s l.length (encs putA l++rest) tk
 have hc:=hf_u64A W
 have hp:hfL (encs putA l)=true:=hfL_encs (fun _=>rfl) l
 have lW:=lenU W
 have oW:=one_u64A W
 have h00:W.length≠0:=fun e=>h0 (List.eq_nil_of_length_eq_zero e)
 refine pc_wp (fi:=c15) rfl ?_ (by simp[c15]) (by decide) ?_
 . simp only[pcOn,List.map_cons,List.map_nil,hfL,hf_lend_sl,hf_lend_int,hf_lend_bool,hf_lend_str,hfL_append,Bool.and_self,Bool.and_true,Bool.true_and,c15,hc,hp,hr]
 unfold c15
 rw[List.map_cons,List.map_cons,List.map_nil,e1,e2]
 have ap:appR 1 8 (.sl 1 0 [] .e) (.sl 1 W.length (encs u64A W) u1) []=some (.val (.rsl 1 0 W.length),[.cells (encs u64A W)]):=by
   have ht:(encs u64A W).take (W.length*1)=encs u64A W:=List.take_of_length_le (by omega)
   have g1:W.length*8<=70368744177664:=by omega
   have g2:W.length<=70368744177664:=by omega
   have g3:W.length*1<=(encs u64A W).length:=by omega
   simp only[appR,ht,h00,oW,g1,g2,g3,Tk.empty,ne_eq,not_false_eq_true,and_self,if_true,Nat.lt_one_iff,Nat.zero_lt_one,List.length_nil,List.nil_append]
 simp(disch:=omega)only[wk,tupled,↓reduceIte,reduceEqDiff,reduceEq,reduceAdd,reduceCtorEq,ap]
 refine loop_ind (fun(x:List (Int×Int)×List (Int×Int)) E df H=>l=x.1++x.2/\E 1= .sl s l.length (encs putA l++rest) u2/\E 5= .rsl 1 0 W.length/\E 6= .int .i64 (x.1.length:Nat)/\df=[]/\H=[.cells (encs u64A (apW W x.1))])
   (fun x=>x.2.length) ([],l) (by decide) (.inl rfl) ⟨rfl,rfl,rfl,rfl,rfl,rfl⟩ ?_
 intro ⟨pre,suf⟩ E df H ih hP
 obtain⟨a1,E1,E5,E6,hdf,hH⟩:=hP
 dsimp only at a1 E6 hH
 subst hdf hH
 have hll:l.length=pre.length+suf.length:=by rw[a1,List.length_append]
 have lV:=apW_len pre W
 cases suf with
 | nil=>
   simp only[List.append_nil,List.length_nil,Nat.add_zero]at a1 hll
   rw[<-a1]at lV ⊢
   have k1:(encs u64A (apW W l)).length=W.length*1:=by rw[lenU,lV];omega
   have k2:=hf_u64A (apW W l)
   simp(disch:=omega)only[wk,tupled,↓reduceIte,reduceEqDiff,reduceEq,reduceAdd,reduceCtorEq,E1,E5,E6,purify,k1,k2,h00]
 | cons x r=>
   simp only[List.length_cons]at hll
   obtain⟨x1,x2⟩:=x
   obtain rfl:=hs (by rw[a1];simp)
   have dd:List.drop (pre.length*2) (encs putA l++rest)= .int .i64 x1:: .int .u64 x2::(encs putA r++rest):=by rw[a1,drop_pre2,encs_cons];rfl
   have hstep:apW W (pre++[(x1,x2)])=stA (apW W pre) (x1,x2):=by unfold apW;rw[List.foldl_append];rfl
   generalize hV:apW W pre=V at*
   have lVe:=lenU V
   by_cases h1:0<=x1
   . by_cases h2:x1<(W.length:Int)
     . have hst:stA V (x1,x2)=V.set x1.toNat x2:=if_pos ⟨h1,by rw[lV];exact h2⟩
       simp(disch:=omega)only[wk,tupled,↓reduceIte,reduceEqDiff,reduceEq,reduceAdd,reduceCtorEq,E1,E5,E6,dd,h1,h2,lVe]
       rw[setU V _ _ (by omega)]
       exact ih (pre++[(x1,x2)],r) _ _ _ (by simp) ⟨by simp[a1],by simp only[en,↓reduceIte,reduceEqDiff,E1],by simp only[en,↓reduceIte,reduceEqDiff,E5],by simp only[en,↓reduceIte,reduceEqDiff],rfl,by rw[hstep,hst]⟩
     . have hst:stA V (x1,x2)=V:=if_neg (fun h=>h2 (by rw[<-lV];exact h.2))
       simp(disch:=omega)only[wk,tupled,↓reduceIte,reduceEqDiff,reduceEq,reduceAdd,reduceCtorEq,E1,E5,E6,dd,h1,h2]
       exact ih (pre++[(x1,x2)],r) _ _ _ (by simp) ⟨by simp[a1],by simp only[en,↓reduceIte,reduceEqDiff,E1],by simp only[en,↓reduceIte,reduceEqDiff,E5],by simp only[en,↓reduceIte,reduceEqDiff],rfl,by rw[hstep,hst]⟩
   . have hst:stA V (x1,x2)=V:=if_neg (fun h=>h1 h.1)
     simp(disch:=omega)only[wk,tupled,↓reduceIte,reduceEqDiff,reduceEq,reduceAdd,reduceCtorEq,E1,E5,E6,dd,h1]
     exact ih (pre++[(x1,x2)],r) _ _ _ (by simp) ⟨by simp[a1],by simp only[en,↓reduceIte,reduceEqDiff,E1],by simp only[en,↓reduceIte,reduceEqDiff,E5],by simp only[en,↓reduceIte,reduceEqDiff],rfl,by rw[hstep,hst]⟩
theorem apply_pc (W:List Int) (l:List (Int×Int)) (s:Nat) (t1 tk:Tk) (h0:W≠[]) (hW:W.length<=1000000) (hl:l.length<=1000000) (hs:l≠[]->s=2):
   (cbL tab).pc 15 [.sl 1 W.length (encs u64A W) t1,.sl s l.length (encs putA l) tk]=some (.fresh 1 W.length (encs u64A (apW W l))):=by
 have:=apply_pc2 W l [] rfl s t1 tk h0 hW hl hs
 rw[List.append_nil]at this
 exact this
theorem lendK_u (H:Heap) (k:Nat) (W:List Int):(encs u64A W).map (lendK H k)=encs u64A W:=by
 induction W with
 |nil=>rfl
 | cons x r ih=>
   rw[encs_cons,List.map_append,ih]
   show [lendK H k (.int .u64 x)]++_=_
   rw[lendK_int]
   rfl
theorem lendK_words {H:Heap} {id k:Nat} {W:List Int} (h:H[id]? =some (.cells (encs u64A W))):lendK H (k+1) (.msl 1 id 0 W.length)= .sl 1 W.length (encs u64A W) .ro:=by
 have l:=lenU W
 rw[lendK]
 simp only[h]
 rw[if_pos (by omega),List.drop_zero,List.take_of_length_le (by omega),lendK_u]
theorem apply_m {H:Heap} {id:Nat} {W:List Int} {l:List (Int×Int)} {s:Nat} {tk:Tk} (h:H[id]? =some (.cells (encs u64A W))) (h0:W≠[]) (hW:W.length<=1000000) (hl:l.length<=1000000) (hs:l≠[]->s=2):
   enterM (cbL tab) false 15 [.msl 1 id 0 W.length,.sl s l.length (encs putA l) tk] H=some (.ret (.msl 1 H.length 0 W.length),H++[.cells (encs u64A (apW W l))]):=by
 have key:=apply_pc W l s .ro tk h0 hW hl hs
 have e:pcx (cbL tab) 15 [.msl 1 id 0 W.length,.sl s l.length (encs putA l) tk] H=some (.fresh 1 W.length (encs u64A (apW W l))):=by
   unfold pcx
   rw[if_pos (show(cbL tab).lent 15=true from rfl)]
   unfold enterL
   rw[List.map_cons,List.map_cons,List.map_nil,lendK_words h,lendK_sl,key]
   simp only[scal_u64A,if_true]
 have lA:(encs u64A (apW W l)).length=W.length*1:=by rw[lenU,apW_len];omega
 unfold enterM
 rw[e]
 simp only[scal_u64A,lA,beq_self_eq_true,Bool.and_self,if_true,Bool.false_eq_true,if_false]
def prA (p:Int×Int):List AV:=[.int .u64 p.1,.int .u64 p.2]
instance : Even prA 2 := ⟨fun _ => rfl⟩
def nmF (n0 n1 n2 d:Nat):Nat:=if d=0 then n0 else if d=1 then n1 else n2
def pairsF (rc:Nat):Nat->List (Int×Int)
 |0=>[]
 |n+1=>pairsF rc n++[(((3*n+3:Nat):Int),((rc+n:Nat):Int))]
theorem pairsF_len (rc:Nat):∀n,(pairsF rc n).length=n
 |0=>rfl
 |n+1=>by rw[pairsF,List.length_append,pairsF_len rc n];rfl
def twoP (d:Nat):List (Int×Int):=if d=0 then [(1000,61),(1001,62)] else []
def freeF (b:Nat):Nat->List Int
 |0=>[]
 |n+1=>freeF b n++[((b+n:Nat):Int)]
theorem freeF_len (b:Nat):∀n,(freeF b n).length=n
 |0=>rfl
 |n+1=>by rw[freeF,List.length_append,freeF_len b n];rfl
def putW (W:List Int) (a:Nat) (w:List Int):List Int:=W.take a++w++W.drop (a+w.length)
structure Bt where
 root:Nat
 puts:List (Int×Int)
 used:Nat
structure Steps (n0 n1 n2:Nat) (bt:Nat->Bt) (S:List Int) (dw:Nat->List Int) (W:Nat->List Int) (b rc:Nat->Nat):Prop where
 form:∀H,pcx (cbL tab) 24 [.agg [.int .i64 64,.int .i64 8,.int .i64 64,.int .i64 8],.agg [.int .u64 1,.int .u64 2]] H=some (.plain (.tup [.agg layD,.int .i64 0]))
 super:∀H,pcx (cbL tab) 25 [.agg layD] H=some (.fresh 1 64 (encs u64A S))
 slen:S.length=64
 w0:W 0=putW (List.replicate 4096 0) 0 S
 b0:b 0=28
 rc0:rc 0=1
 ble:∀d,d<=3->b d<=64
 build:∀d,d<3->∀v1 v2 H,lend v1=slvR 2 prA (pairsF (rc d) (nmF n0 n1 n2 d)++twoP d)->lend v2=slvR 1 i64A (freeF (b d) (64-b d))->pcx (cbL tab) 26 [v1,v2] H=some (.plain (.tup [.int .i64 ((bt d).root:Nat),slvR 2 putA (bt d).puts,.int .i64 ((bt d).used:Nat),.int .i64 0]))
 plen:∀d,(bt d).puts.length<=100000
 dwl:∀d,(dw d).length=16
 words:∀d,d<3->∀H,pcx (cbL tab) 27 [.agg [.int .i64 2,.int .i64 1,.int .i64 0,.sl 0 0 [] .z,.int .i64 ((bt d).root:Nat),.int .i64 1,.str ⟨#[]⟩]] H=some (.plain (.tup [.sl 1 16 (encs u64A (dw d)) .ro,.int .i64 0]))
 wS:∀d,W (d+1)=putW (apW (W d) (bt d).puts) (576+16*d) (dw d)
 bS:∀d,b (d+1)=b d+(bt d).used
 rcS:∀d,rc (d+1)=rc d+nmF n0 n1 n2 d
 at_:∀d,d<3->∀H,pcx (cbL tab) 11 [.agg layD,.int .i64 ((d:Nat)+1)] H=some (.plain (.int .i64 ((576+16*d:Nat):Int)))
structure KT (H H':Heap):Prop where
 keep:∀(k:Nat) (o:AObj),(∀s,o≠ .tok s)->H[k]? =some o->H'[k]? =some o
 len:H.length<=H'.length
theorem KT.refl (H:Heap):KT H H:=⟨fun _ _ _ h=>h,Nat.le_refl _⟩
theorem KT.trans {A B C:Heap} (h:KT A B) (k:KT B C):KT A C:=⟨fun i o h1 h2=>k.keep i o h1 (h.keep i o h1 h2),Nat.le_trans h.len k.len⟩
theorem KT.of {H H':Heap} {sz n:Nat} {v:AV} {cs:List AV} (ho:Own H sz v n cs) (h:Kept (tokOf v) H H') (hl:H.length<H'.length):KT H H':=⟨fun k o h1 h2=>h.cells ho rfl h2 h1,by omega⟩
theorem repL_u:∀n,repL n [AV.int .u64 0]=encs u64A (List.replicate n 0)
 |0=>rfl
 |n+1=>by rw[repL,repL_u n,List.replicate_succ,encs_cons];rfl
theorem putW_len {W w:List Int} {a:Nat} (h:a+w.length<=W.length):(putW W a w).length=W.length:=by
 unfold putW
 rw[List.length_append,List.length_append,List.length_take,List.length_drop]
 omega
theorem putW_cells (W w:List Int) (a:Nat):List.take a (encs u64A W)++encs u64A w++List.drop (a+w.length) (encs u64A W)=encs u64A (putW W a w):=by
 unfold putW
 rw[encs_append,encs_append]
 have h1:=encs_take (f:=u64A) W a
 have h2:=encs_drop (f:=u64A) W (a+w.length)
 rw[Nat.mul_one]at h1 h2
 rw[h1,h2]
theorem ret_gen {cb:CB} {rd:Option Nat} {n:Nat} {Q:KP} {ks:List Kt} {e:Ex} {E:Env} {df:List ADf} {H:Heap} (P:Env->Heap->Prop) (h:P E H) (k:∀E2 H2,P E2 H2->Ret cb rd n Q ks e E2 df H2):Ret cb rd n Q ks e E df H:=k E H h
structure MidP (H0:Heap) (id bd rcn d:Nat) (p:List (Int×Int)) (Hd:Heap) (E:Env) (H:Heap):Prop where
 e1:E 1= .ptr H0.length 0
 e3:E 3= .ptr (H0.length+1) 0
 e5:E 5= .ptr (H0.length+2) 0
 e7:E 7= .msl 1 id 0 4096
 e8:E 8= .int .i64 ((bd:Nat):Int)
 e9:E 9= .int .i64 ((rcn:Nat):Int)
 e10:E 10= .int .i64 ((d:Nat):Int)
 e13:E 13= .sl 0 0 [] .z
 e14:E 14= .int .i64 ((bd:Nat):Int)
 row:∃v,E 11=v/\lend v=slvR 2 prA p
 kt:KT Hd H
theorem made_ic {H0:Heap} (hH0:∀(i s:Nat),H0[i]? ≠some (AObj.tok s)) {n0 n1 n2:Nat} (hn:n0+n1+n2<=60) {bt:Nat->Bt} {S:List Int} {dw:Nat->List Int} {W:Nat->List Int} {b rc:Nat->Nat} (hs:Steps n0 n1 n2 bt S dw W b rc):
   ∃H' id,(cbL tab).ic 7 [.agg [.int .i64 (n0:Nat),.int .i64 (n1:Nat),.int .i64 (n2:Nat)]] H0=some (.ret (.tup [.msl 1 id 0 4096,.agg layD,.bool true]),H')/\H'[id]? =some (.cells (encs u64A (W 3)))/\(∀i,i<H0.length->H'[i]? =H0[i]?)/\H0.length<=id:=by
 have key:∃o H',(cbL tab).ic 7 [.agg [.int .i64 (n0:Nat),.int .i64 (n1:Nat),.int .i64 (n2:Nat)]] H0=some (o,H')/\∃id,o= .ret (.tup [.msl 1 id 0 4096,.agg layD,.bool true])/\H'[id]? =some (.cells (encs u64A (W 3)))/\(∀i,i<H0.length->H'[i]? =H0[i]?)/\H0.length<=id:=by
   refine ic_wp (fi:=c7) rfl rfl (by simp[c7]) (by decide) ?_
   unfold c7
   have g0:∀L:List AObj,(H0++L)[H0.length]? =L[0]? :=fun L=>by rw[List.getElem?_append_right (Nat.le_refl _),Nat.sub_self]
   have gk:∀(L:List AObj) (k:Nat),(H0++L)[H0.length+k]? =L[k]? :=fun L k=>by rw[List.getElem?_append_right (by omega)];congr 1;omega
   have sk:∀(L:List AObj) (k:Nat) (o:AObj),(H0++L).set (H0.length+k) o=H0++L.set k o:=fun L k o=>by rw[List.set_append_right _ _ (by omega)];congr 2;omega
   have fm:=hs.form
   have su:=hs.super
   have l10:layD.length=10:=rfl
   have o10:allOne layD=true:=rfl
   have t10:List.take 10 layD=layD:=rfl
   have m9:layD[9]? =some (.int .i64 28):=rfl
   generalize hlay:layD=L0 at fm su l10 o10 t10 m9
   have i0:Int.toNat 0=0:=rfl
   have i1:Int.toNat 1=1:=rfl
   have i2:Int.toNat 2=2:=rfl
   have mk:madeN 1 8 [.int .u64 0] (.int .i64 4096) (.int .i64 4096)=some 4096:=rfl
   have mn:min 64 4096=64:=rfl
   have lS:(encs u64A S).length=64:=by rw[lenU,hs.slen]
   have oS:=one_u64A S
   have tS:List.take 64 (encs u64A S)=encs u64A S:=List.take_of_length_le (by omega)
   have rz:=repL_u 4096
   have l4:(encs u64A (List.replicate 4096 0)).length=4096:=by rw[lenU,List.length_replicate]
   have W0:encs u64A S++List.drop 64 (encs u64A (List.replicate 4096 0))=encs u64A (W 0):=by
     rw[hs.w0,<-putW_cells,hs.slen];rfl
   generalize hZ:encs u64A (List.replicate 4096 0)=Z at rz l4 W0
   simp(disch:=omega)only[wk,tupled,↓reduceIte,reduceEqDiff,reduceEq,reduceAdd,reduceCtorEq,List.append_assoc,g0,gk,sk,fm,su,l10,o10,t10,m9,i0,i1,i2,mk,Nat.zero_add,List.append_nil,mn,lS,oS,tS,rz,l4,W0]
   have hWl:∀d,d<=3->(W d).length=4096:=by
     intro d
     induction d with
     |zero=>intro _;rw[hs.w0,putW_len (by rw[hs.slen,List.length_replicate];omega),List.length_replicate]
     |succ d ih=>intro h;rw[hs.wS,putW_len (by rw[hs.dwl,apW_len,ih (by omega)];omega),apW_len,ih (by omega)]
   refine loop_ind (fun(d:Nat) E df H=>d<=3/\E 1= .ptr H0.length 0/\E 3= .ptr (H0.length+1) 0/\E 5= .ptr (H0.length+2) 0/\E 8= .int .i64 ((b d:Nat):Int)/\E 9= .int .i64 ((rc d:Nat):Int)/\E 10= .int .i64 ((d:Nat):Int)/\df=[]∧
       (∃id,E 7= .msl 1 id 0 4096/\H[id]? =some (.cells (encs u64A (W d)))/\H0.length+3<=id)/\(∀i,i<H0.length->H[i]? =H0[i]?)/\H[H0.length]? =some (.cells [.int .i64 (n0:Nat),.int .i64 (n1:Nat),.int .i64 (n2:Nat)])∧
       (∃zs,H[H0.length+1]? =some (.cells zs)/\zs.length=10)/\H[H0.length+2]? =some (.cells L0))
     (fun d=>3-d) 0 (by decide) (.inl rfl) ⟨by omega,by simp only[en,↓reduceIte,reduceEqDiff],by simp only[en,↓reduceIte,reduceEqDiff],by simp only[en,↓reduceIte,reduceEqDiff],by simp only[en,↓reduceIte,reduceEqDiff,hs.b0];rfl,by simp only[en,↓reduceIte,reduceEqDiff,hs.rc0];rfl,by simp only[en,↓reduceIte,reduceEqDiff];rfl,rfl,⟨H0.length+3,by simp only[en,↓reduceIte,reduceEqDiff],by rw[gk];rfl,Nat.le_refl _⟩,fun i hi=>List.getElem?_append_left hi,by rw[g0];rfl,⟨_,by rw[gk];rfl,rfl⟩,by rw[gk];rfl⟩ ?_
   intro d E df Hd ih hP
   obtain⟨hd3,E1,E3,E5,E8,E9,E10,hdf,⟨id,E7,gw,hid⟩,gold,gn,⟨zs,gz,hz⟩,gl⟩:=hP
   subst hdf
   by_cases hd:d<3
   case neg=>
     obtain rfl:d=3:=by omega
     have d3:((3:Nat):Int)=3:=rfl
     have d10:List.drop 10 zs=[]:=List.drop_of_length_le (by omega)
     have ga:∀o,(Hd.set (H0.length+1) o)[H0.length+1]? =some o:=fun o=>set_eqU gz
     simp(disch:=omega)only[wk,tupled,↓reduceIte,reduceEqDiff,reduceEq,reduceAdd,reduceCtorEq,E1,E3,E5,E7,E8,E9,E10,gl,gz,hz,ga,l10,o10,t10,d3,d10,List.append_nil,Nat.zero_add]
     refine⟨id,rfl, ?_,fun i hi=> ?_,by omega⟩
     . rw[set_neU (by omega)];exact gw
     . rw[set_neU (by omega)];exact gold i hi
   have hnd:nmF n0 n1 n2 d<=60:=by unfold nmF;split<;>(try split)<;>omega
   have hrc:rc d<=1+60*d:=by
     have:∀d,rc d<=1+60*d:=by
       intro d
       induction d with
       |zero=>rw[hs.rc0];omega
       | succ d ih=>
         have:nmF n0 n1 n2 d<=60:=by unfold nmF;split<;>(try split)<;>omega
         rw[hs.rcS];omega
     exact this d
   have nf:([.int .i64 (n0:Nat),.int .i64 (n1:Nat),.int .i64 (n2:Nat)]:List AV)[d]? =some (.int .i64 ((nmF n0 n1 n2 d:Nat):Int)):=by
     rcases d with _|_|_|d
     . rfl
     . rfl
     . rfl
     . omega
   obtain⟨nd,hnd0⟩:∃nd,nd=nmF n0 n1 n2 d:=⟨_,rfl⟩
   rw[<-hnd0]at nf hnd
   simp(disch:=omega)only[wk,tupled,↓reduceIte,reduceEqDiff,reduceEq,reduceAdd,reduceCtorEq,E1,E3,E5,E8,E9,E10]
   refine loop_ind (fun(i:Nat) E df H=>i<=nd/\E 1= .ptr H0.length 0/\E 3= .ptr (H0.length+1) 0/\E 5= .ptr (H0.length+2) 0/\E 7= .msl 1 id 0 4096/\E 8= .int .i64 ((b d:Nat):Int)/\E 9= .int .i64 ((rc d+i:Nat):Int)/\E 10= .int .i64 ((d:Nat):Int)/\E 12= .int .i64 ((i:Nat):Int)/\df=[]∧
       (∃v,E 11=v/\Own H 2 v (pairsF (rc d) i).length (encs prA (pairsF (rc d) i))/\∀a b c,v≠ .sl a b c .e)/\KT Hd H)
     (fun i=>nd-i) 0 (by decide) (.inl rfl) ⟨by omega,by simp only[en,↓reduceIte,reduceEqDiff,E1],by simp only[en,↓reduceIte,reduceEqDiff,E3],by simp only[en,↓reduceIte,reduceEqDiff,E5],by simp only[en,↓reduceIte,reduceEqDiff,E7],by simp only[en,↓reduceIte,reduceEqDiff,E8],by simp only[en,↓reduceIte,reduceEqDiff,E9],by simp only[en,↓reduceIte,reduceEqDiff,E10],by simp only[en,↓reduceIte,reduceEqDiff];rfl,rfl,⟨.sl 0 0 [] .z,by simp only[en,↓reduceIte,reduceEqDiff],.inl ⟨.inl rfl,rfl,rfl⟩,by intro a b c e;cases e⟩,.refl Hd⟩ ?_
   intro i E df H1 ih1 hP
   obtain⟨hi,E1,E3,E5,E7,E8,E9,E10,E12,hdf,⟨v,E11,ho,hv⟩,hk⟩:=hP
   subst hdf
   have gn1:=hk.keep _ _ (by intro s e;cases e) gn
   by_cases hin:i<nd
   case pos=>
     have c1:(3*(i:Int)+3)=((3*i+3:Nat):Int):=by omega
     rw[pairsF_len (rc d) i]at ho
     simp(disch:=omega)only[wk,tupled,↓reduceIte,reduceEqDiff,reduceEq,reduceAdd,reduceCtorEq,E1,E3,E5,E7,E8,E9,E10,E11,E12,gn1,nf,Nat.zero_add]
     refine runX_app ho (by omega) (by omega) (by omega) (by omega) rfl rfl (fun H' q1 q2 q3=> ?_)
     simp(disch:=omega)only[wk,tupled,↓reduceIte,reduceEqDiff,reduceEq,reduceAdd,reduceCtorEq,E9,E12]
     refine ih1 (i+1) _ _ _ (by omega) ?_
     refine⟨by omega,by simp only[en,↓reduceIte,reduceEqDiff,E1],by simp only[en,↓reduceIte,reduceEqDiff,E3],by simp only[en,↓reduceIte,reduceEqDiff,E5],by simp only[en,↓reduceIte,reduceEqDiff,E7],by simp only[en,↓reduceIte,reduceEqDiff,E8],by simp only[en,↓reduceIte,reduceEqDiff];rfl,by simp only[en,↓reduceIte,reduceEqDiff,E10],by simp only[en,↓reduceIte,reduceEqDiff],rfl,⟨_,by simp only[en,↓reduceIte,reduceEqDiff];rfl, ?_,by intro a b c e;cases e⟩,hk.trans (KT.of ho q2 q3)⟩
     rw[c1]at q1
     rw[pairsF_len,pairsF,encs_append]
     exact q1
   obtain rfl:i=nd:=by omega
   simp(disch:=omega)only[wk,tupled,↓reduceIte,reduceEqDiff,reduceEq,reduceAdd,reduceCtorEq,E1,E3,E5,E7,E8,E9,E10,E11,E12,gn1,nf,Nat.zero_add]
   have pl:=pairsF_len (rc d) i
   have e9:rc d+i=rc (d+1):=by rw[hs.rcS,<-hnd0]
   rw[e9]at E9
   by_cases h0:d=0
   have hd0:(d:Int)=0:=by omega
   rw[pl]at ho
   simp(disch:=omega)only[wk,tupled,↓reduceIte,reduceEqDiff,reduceEq,reduceAdd,reduceCtorEq,E11,hd0]
   refine runX_app ho (by omega) (by omega) (by omega) (by omega) rfl rfl (fun H' q1 q2 q3=> ?_)
   have q4:Own H' 2 (.sl 2 (i+2) (encs prA (pairsF (rc d) i)++[.int .u64 1000,.int .u64 61,.int .u64 1001,.int .u64 62]) (.own H1.length)) (pairsF (rc d) i++twoP d).length (encs prA (pairsF (rc d) i++twoP d)):=by
     rw[encs_append,List.length_append,pl,twoP,if_pos h0]
     exact q1
   simp(disch:=omega)only[wk,tupled,↓reduceIte,reduceEqDiff,reduceEq,reduceAdd,reduceCtorEq]
   refine ret_gen (MidP H0 id (b d) (rc (d+1)) d (pairsF (rc d) i++twoP d) Hd) ⟨by simp only[en,↓reduceIte,reduceEqDiff,E1],by simp only[en,↓reduceIte,reduceEqDiff,E3],by simp only[en,↓reduceIte,reduceEqDiff,E5],by simp only[en,↓reduceIte,reduceEqDiff,E7],by simp only[en,↓reduceIte,reduceEqDiff,E8],by simp only[en,↓reduceIte,reduceEqDiff,E9],by simp only[en,↓reduceIte,reduceEqDiff,E10],by simp only[en,↓reduceIte,reduceEqDiff],by simp only[en,↓reduceIte,reduceEqDiff,E8],⟨_,by simp only[en,↓reduceIte,reduceEqDiff],own_lend q4 (by intro a b c e;cases e)⟩,hk.trans (KT.of ho q2 q3)⟩ ?_
   rotate_left
   have hd0:¬(d:Int)=0:=by omega
   simp(disch:=omega)only[wk,tupled,↓reduceIte,reduceEqDiff,reduceEq,reduceAdd,reduceCtorEq,E11,hd0]
   refine ret_gen (MidP H0 id (b d) (rc (d+1)) d (pairsF (rc d) i++twoP d) Hd) ⟨by simp only[en,↓reduceIte,reduceEqDiff,E1],by simp only[en,↓reduceIte,reduceEqDiff,E3],by simp only[en,↓reduceIte,reduceEqDiff,E5],by simp only[en,↓reduceIte,reduceEqDiff,E7],by simp only[en,↓reduceIte,reduceEqDiff,E8],by simp only[en,↓reduceIte,reduceEqDiff,E9],by simp only[en,↓reduceIte,reduceEqDiff,E10],by simp only[en,↓reduceIte,reduceEqDiff],by simp only[en,↓reduceIte,reduceEqDiff,E8],⟨_,by simp only[en,↓reduceIte,reduceEqDiff,E11],own_lend (by rw[twoP,if_neg h0,List.append_nil];exact ho) hv⟩,hk⟩ ?_
   all_goals
     clear E1 E3 E5 E7 E8 E9 E10 E11 E12
     intro E H2 hM
     obtain⟨E1,E3,E5,E7,E8,E9,E10,E13,E14,⟨v2,E11,lv2⟩,hk2⟩:=hM
     have hbd:=hs.ble d hd3
     refine loop_ind (fun(j:Nat) E df H=>j<=64-b d/\E 1= .ptr H0.length 0/\E 3= .ptr (H0.length+1) 0/\E 5= .ptr (H0.length+2) 0/\E 7= .msl 1 id 0 4096/\E 8= .int .i64 ((b d:Nat):Int)/\E 9= .int .i64 ((rc (d+1):Nat):Int)/\E 10= .int .i64 ((d:Nat):Int)/\E 11=v2/\E 14= .int .i64 ((b d+j:Nat):Int)/\df=[]∧
         (∃v,E 13=v/\Own H 1 v (freeF (b d) j).length (encs i64A (freeF (b d) j))/\∀a b c,v≠ .sl a b c .e)/\KT Hd H)
       (fun j=>64-b d-j) 0 (by decide) (.inl rfl) ⟨by omega,E1,E3,E5,E7,E8,E9,E10,E11,E14,rfl,⟨_,E13,.inl ⟨.inl rfl,rfl,rfl⟩,by intro a b c e;cases e⟩,hk2⟩ ?_
     clear E1 E3 E5 E7 E8 E9 E10 E11 E13 E14
     intro j E df H3 ih2 hP
     obtain⟨hj,E1,E3,E5,E7,E8,E9,E10,E11,E14,hdf,⟨w,E13,how,hw⟩,hk3⟩:=hP
     subst hdf
     by_cases hjn:j<64-b d
     case pos=>
       rw[freeF_len]at how
       simp(disch:=omega)only[wk,tupled,↓reduceIte,reduceEqDiff,reduceEq,reduceAdd,reduceCtorEq,E8,E13,E14]
       refine runX_app how (by omega) (by omega) (by omega) (by omega) rfl rfl (fun H' q1 q2 q3=> ?_)
       simp(disch:=omega)only[wk,tupled,↓reduceIte,reduceEqDiff,reduceEq,reduceAdd,reduceCtorEq,E14]
       refine ih2 (j+1) _ _ _ (by omega) ?_
       refine⟨by omega,by simp only[en,↓reduceIte,reduceEqDiff,E1],by simp only[en,↓reduceIte,reduceEqDiff,E3],by simp only[en,↓reduceIte,reduceEqDiff,E5],by simp only[en,↓reduceIte,reduceEqDiff,E7],by simp only[en,↓reduceIte,reduceEqDiff,E8],by simp only[en,↓reduceIte,reduceEqDiff,E9],by simp only[en,↓reduceIte,reduceEqDiff,E10],by simp only[en,↓reduceIte,reduceEqDiff,E11],by simp only[en,↓reduceIte,reduceEqDiff];rfl,rfl,⟨.sl 1 (j+1) (encs i64A (freeF (b d) j)++[.int .i64 ((b d+j:Nat):Int)]) (.own H3.length),by simp only[en,↓reduceIte,reduceEqDiff], ?_,by intro a b c e;cases e⟩,hk3.trans (KT.of how q2 q3)⟩
       rw[freeF_len,freeF,encs_append]
       exact q1
     obtain rfl:j=64-b d:=by omega
     have lw:=own_lend how hw
     have bl:=fun H=>hs.build d hd v2 w H (by rw[<-hnd0];exact lv2) lw
     obtain⟨s,tk,es,hs2,_⟩:=slvR_form 2 putA (bt d).puts
     rw[es]at bl
     have nt:∀cs:List AV,∀s,AObj.cells cs≠ .tok s:=by intro cs s e;cases e
     have gw3:=hk3.keep _ _ (nt _) gw
     have gl3:=hk3.keep _ _ (nt _) gl
     have wne:W d≠[]:=fun e=>by have:=hWl d hd3;rw[e]at this;cases this
     have am:=apply_m (tk:=tk) gw3 wne (by rw[hWl d hd3];omega) (by have:=hs.plen d;omega) hs2
     rw[hWl d hd3]at am
     have wf:=hs.words d hd
     have at3:=hs.at_ d hd
     rw[hlay]at at3
     have lV:(apW (W d) (bt d).puts).length=4096:=by rw[apW_len,hWl d hd3]
     obtain⟨V,hV⟩:∃V,V=apW (W d) (bt d).puts:=⟨_,rfl⟩
     rw[<-hV]at am lV
     obtain⟨A,hA⟩:∃A,A=576+16*d:=⟨_,rfl⟩
     rw[<-hA]at at3
     have hA1:A<=608:=by omega
     have l3:H0.length+2<H3.length:=(List.getElem?_eq_some_iff.1 gl3).1
     have f1:∀c:AObj,(H3++[c])[H3.length]? =some c:=fun c=>by simp
     have f5:∀c:AObj,(H3++[c])[H0.length+2]? =some (.cells L0):=fun c=>by rw[List.getElem?_append_left l3];exact gl3
     have mn:min 16 (4096-A)=16:=by omega
     have lD:(encs u64A (dw d)).length=16:=by rw[lenU,hs.dwl]
     have oD:=one_u64A (dw d)
     have tD:List.take 16 (encs u64A (dw d))=encs u64A (dw d):=List.take_of_length_le (by omega)
     have lVe:(encs u64A V).length=4096:=by rw[lenU,lV]
     have pw:=putW_cells V (dw d) A
     rw[hs.dwl]at pw
     have hAn:¬A=4096:=by omega
     have hus:b (d+1)<=64:=hs.ble (d+1) (by omega)
     rw[hs.bS]at hus
     simp(disch:=omega)only[wk,tupled,↓reduceIte,reduceEqDiff,reduceEq,reduceAdd,reduceCtorEq,E1,E3,E5,E7,E8,E9,E10,E11,E13,E14,bl,am,wf,at3,f1,f5,l10,t10,mn,lD,oD,tD,lVe,pw,hAn,Nat.zero_add]
     have fh:∀(c c':AObj) (i:Nat),i<H3.length->((H3++[c]).set H3.length c')[i]? =H3[i]? :=fun c c' i hi=>by
       rw[set_neU (by omega),List.getElem?_append_left hi]
     have gn3:=hk3.keep _ _ (nt _) gn
     have gz3:=hk3.keep _ _ (nt _) gz
     have hle:=hk3.len
     refine ih (d+1) _ _ _ (by omega) ?_
     refine⟨by omega,by simp only[en,↓reduceIte,reduceEqDiff,E1],by simp only[en,↓reduceIte,reduceEqDiff,E3],by simp only[en,↓reduceIte,reduceEqDiff,E5],by simp only[en,↓reduceIte,reduceEqDiff];rw[hs.bS];rfl,by simp only[en,↓reduceIte,reduceEqDiff,E9],by simp only[en,↓reduceIte,reduceEqDiff],rfl,⟨H3.length,by simp only[en,↓reduceIte,reduceEqDiff],by rw[hs.wS,<-hV,<-hA];exact set_eqU (f1 _),by omega⟩,fun k hk=> ?_, ?_,⟨zs, ?_,hz⟩, ?_⟩
     . have hk0:k<H0.length:=hk
       have hx:H0[k]? =some H0[k]:=List.getElem?_eq_getElem hk0
       have hy:=hk3.keep k H0[k] (fun s e=>hH0 k s (by rw[hx,e])) ((gold k hk0).trans hx)
       rw[fh _ _ k (List.getElem?_eq_some_iff.1 hy).1,hy,hx]
     . rw[fh _ _ _ (by omega)];exact gn3
     . rw[fh _ _ _ (by omega)];exact gz3
     . rw[fh _ _ _ (by omega)];exact gl3
 obtain⟨o,H',h1,id,rfl,h2,h3,h4⟩:=key
 exact⟨H',id,h1,h2,h3,h4⟩
theorem bhas_px (l:List Int) (n:Int) (rest:List AV) (s:Nat) (tk:Tk) (hs:l≠[]->s=1) (hr:hfL rest=true) (hl:l.length<=100000) (H:Heap):
   pcx (cbL tab) 88 [.sl s l.length (encs i64A l++rest) tk,.int .i64 n] H=some (.plain (.bool (decide (n∈l)))):=by
 obtain⟨u1,e1,f1⟩:=lend_sl s l.length (encs i64A l++rest) tk
 have hfi:hfL (encs i64A l)=true:=hfL_encs (fun _=>rfl) l
 refine pcx_N rfl (pc_wp (fi:=c88) rfl ?_ (by simp[c88]) (by decide) ?_)
 . simp only[pcOn,List.map_cons,List.map_nil,hfL,hf_lend_sl,hf_lend_int,hf_lend_bool,hf_lend_str,hfL_append,Bool.and_self,Bool.and_true,Bool.true_and,c88,hfi,hr]
 unfold c88
 rw[List.map_cons,List.map_cons,List.map_nil,e1,lend_int]
 simp(disch:=omega)only[wk,tupled,↓reduceIte,reduceEqDiff,reduceEq,reduceAdd,reduceCtorEq]
 refine loop_ind (fun(x:List Int×List Int) E df H=>l=x.1++x.2/\¬n∈x.1/\E 0= .sl s l.length (encs i64A l++rest) u1/\E 1= .int .i64 n/\E 5= .int .i64 (x.1.length:Nat)/\df=[]/\H=[])
   (fun x=>x.2.length) ([],l) (by decide) (.inl rfl) ⟨rfl,by simp,rfl,rfl,rfl,rfl,rfl⟩ ?_
 intro ⟨pre,suf⟩ E df H ih hP
 obtain⟨a1,a2,E0,E1,E5,hdf,hH⟩:=hP
 dsimp only at a1 a2 E5
 subst hdf hH
 have hll:l.length=pre.length+suf.length:=by rw[a1,List.length_append]
 cases suf with
 | nil=>
   simp only[List.append_nil,List.length_nil,Nat.add_zero]at a1 hll
   have hn:decide (n∈l)=false:=by rw[a1];simpa using a2
   simp(disch:=omega)only[wk,tupled,↓reduceIte,reduceEqDiff,reduceEq,reduceAdd,reduceCtorEq,E0,E1,E5,hn,purify,unownT,lend,unown,AV.hf]
 | cons x r=>
   simp only[List.length_cons]at hll
   obtain rfl:=hs (by rw[a1];simp)
   have dd:List.drop pre.length (encs i64A l++rest)= .int .i64 x::(encs i64A r++rest):=by
     have:=drop_pre2 (f:=i64A) pre (x::r) rest
     rw[Nat.mul_one,<-a1]at this
     rw[this];rfl
   by_cases hx:x=n
   . have hn:decide (n∈l)=true:=by rw[a1,<-hx];simp
     simp(disch:=omega)only[wk,tupled,↓reduceIte,reduceEqDiff,reduceEq,reduceAdd,reduceCtorEq,E0,E1,E5,dd,hx,hn,purify,unownT,lend,unown,AV.hf]
   . simp(disch:=omega)only[wk,tupled,↓reduceIte,reduceEqDiff,reduceEq,reduceAdd,reduceCtorEq,E0,E1,E5,dd,hx]
     exact ih (pre++[x],r) _ _ _ (by simp) ⟨by simp[a1],by simp only[List.mem_append,List.mem_singleton,not_or];exact⟨a2,fun e=>hx e.symm⟩,by simp only[en,↓reduceIte,reduceEqDiff,E0],by simp only[en,↓reduceIte,reduceEqDiff,E1],by simp only[en,↓reduceIte,reduceEqDiff],rfl,rfl⟩
def blkM:List Int->List Int->Bool
 |_,[]=>true
 |pre,x::r=>if x<1∨2047<x∨x∈pre then false else blkM (pre++[x]) r
theorem blocks_px (l:List Int) (rest:List AV) (s:Nat) (tk:Tk) (hs:l≠[]->s=1) (hr:hfL rest=true) (hl:l.length<=100000) (H:Heap):
   pcx (cbL tab) 51 [.sl s l.length (encs i64A l++rest) tk] H=some (.plain (.bool (blkM [] l))):=by
 obtain⟨u1,e1,f1⟩:=lend_sl s l.length (encs i64A l++rest) tk
 have hfi:∀l,hfL (encs i64A l)=true:=fun l=>hfL_encs (fun _=>rfl) l
 refine pcx_N rfl (pc_wp (fi:=c51) rfl ?_ (by simp[c51]) (by decide) ?_)
 . simp only[pcOn,List.map_cons,List.map_nil,hfL,hf_lend_sl,hf_lend_int,hf_lend_bool,hf_lend_str,hfL_append,Bool.and_self,Bool.and_true,Bool.true_and,c51,hfi,hr]
 unfold c51
 rw[List.map_cons,List.map_nil,e1]
 simp(disch:=omega)only[wk,tupled,↓reduceIte,reduceEqDiff,reduceEq,reduceAdd,reduceCtorEq]
 refine loop_ind (fun(x:List Int×List Int) E df H=>l=x.1++x.2/\blkM [] l=blkM x.1 x.2/\E 0= .sl s l.length (encs i64A l++rest) u1/\E 3= .int .i64 (x.1.length:Nat)/\df=[]/\H=[])
   (fun x=>x.2.length) ([],l) (by decide) (.inl rfl) ⟨rfl,rfl,rfl,rfl,rfl,rfl⟩ ?_
 intro ⟨pre,suf⟩ E df H ih hP
 obtain⟨a1,a2,E0,E3,hdf,hH⟩:=hP
 dsimp only at a1 a2 E3
 subst hdf hH
 have hll:l.length=pre.length+suf.length:=by rw[a1,List.length_append]
 cases suf with
 | nil=>
   simp only[List.append_nil,List.length_nil,Nat.add_zero]at a1 hll
   rw[blkM]at a2
   simp(disch:=omega)only[wk,tupled,↓reduceIte,reduceEqDiff,reduceEq,reduceAdd,reduceCtorEq,E0,E3,a2,purify,unownT,lend,unown,AV.hf]
 | cons x r=>
   simp only[List.length_cons]at hll
   obtain rfl:=hs (by rw[a1];simp)
   have dd:List.drop pre.length (encs i64A l++rest)= .int .i64 x::(encs i64A r++rest):=by
     have:=drop_pre2 (f:=i64A) pre (x::r) rest
     rw[Nat.mul_one,<-a1]at this
     rw[this];rfl
   have ec:encs i64A l++rest=encs i64A pre++(encs i64A (x::r)++rest):=by rw[a1,encs_append,List.append_assoc]
   have hp:=fun tk H=>bhas_px pre x (encs i64A (x::r)++rest) 1 tk (fun _=>rfl) (by rw[hfL_append,hfi,hr];rfl) (by omega) H
   rw[<-ec]at hp
   have hlen:pre.length<=(encs i64A l).length+rest.length:=by
     have:(encs i64A l).length=l.length:=by rw[encs_length (k:=1),Nat.mul_one]
     omega
   rw[blkM]at a2
   by_cases h1:x<1
   . rw[if_pos (.inl h1)]at a2
     simp(disch:=omega)only[wk,tupled,↓reduceIte,reduceEqDiff,reduceEq,reduceAdd,reduceCtorEq,E0,E3,dd,h1,a2,hlen,purify,unownT,lend,unown,AV.hf]
   by_cases h2:2047<x
   . rw[if_pos (.inr (.inl h2))]at a2
     simp(disch:=omega)only[wk,tupled,↓reduceIte,reduceEqDiff,reduceEq,reduceAdd,reduceCtorEq,E0,E3,dd,h1,h2,a2,hlen,purify,unownT,lend,unown,AV.hf]
   have hn0:0≠l.length:=by omega
   have hpn:¬pre.length=l.length:=by omega
   by_cases h3:x∈pre
   . have hd:decide (x∈pre)=true:=decide_eq_true h3
     rw[hd]at hp
     rw[if_pos (.inr (.inr h3))]at a2
     simp(disch:=omega)only[wk,tupled,↓reduceIte,reduceEqDiff,reduceEq,reduceAdd,reduceCtorEq,E0,E3,dd,h1,h2,hp,a2,hlen,hpn,and_false,purify,unownT,lend,unown,AV.hf]
   . have hd:decide (x∈pre)=false:=decide_eq_false h3
     rw[hd]at hp
     rw[if_neg (fun h=>by rcases h with h|h|h<;>contradiction)]at a2
     simp(disch:=omega)only[wk,tupled,↓reduceIte,reduceEqDiff,reduceEq,reduceAdd,reduceCtorEq,E0,E3,dd,h1,h2,hp,hlen,hpn,and_false]
     refine ih (pre++[x],r) _ _ _ (by simp) ?_
     exact⟨by simp[a1],a2,by simp only[en,↓reduceIte,reduceEqDiff,E0],by simp only[en,↓reduceIte,reduceEqDiff],rfl,rfl⟩
end Go.Proofs.YtogbblcnfcfflaaGreat
namespace Go.Am
open Go
def eqS (a b:AV):Bool:=
 match a,b with
 | .int k x,.int k' y=>decide (k=k')&&decide (x=y)
 | .bool x,.bool y=>x==y
 | .str x,.str y=>decide (x.data.toList=y.data.toList)
 | .sl s 0 [] .z,.sl s' 0 [] .z=>Nat.beq s s'
 |_,_=>false
theorem eqS_eq {a b:AV} (h:eqS a b=true):a=b:=by
 unfold eqS at h
 split at h
 . simp only[Bool.and_eq_true,decide_eq_true_eq]at h
   rw[h.1,h.2]
 . rw[eq_of_beq h]
 . rename_i x y
   obtain⟨⟨x⟩⟩:=x
   obtain⟨⟨y⟩⟩:=y
   simp only[decide_eq_true_eq]at h
   rw[h]
 . rw[Nat.eq_of_beq_eq_true h]
 . cases h
def eqCs:List AV->List AV->Bool
 |[],[]=>true
 |a::r,b::s=>eqS a b&&eqCs r s
 |_,_=>false
theorem eqCs_eq:∀{a b:List AV},eqCs a b=true->a=b
 |[],[],_=>rfl
 | a::r,b::s,h=>by
   simp only[eqCs,Bool.and_eq_true]at h
   rw[eqS_eq h.1,eqCs_eq h.2]
 |[],_::_,h=>by cases h
 |_::_,[],h=>by cases h
def eqT (a b:Tk):Bool:=
 match a,b with
 | .ro,.ro=>true
 | .z,.z=>true
 | .e,.e=>true
 |_,_=>false
def eqA (a b:AV):Bool:=
 match a,b with
 | .sl s n cs tk,.sl s' n' ds tk'=>Nat.beq s s'&&(Nat.beq n n'&&(eqT tk tk'&&eqCs cs ds))
 | .agg cs,.agg ds=>eqCs cs ds
 |a,b=>eqS a b
theorem eqT_eq {a b:Tk} (h:eqT a b=true):a=b:=by
 cases a<;>cases b<;>first|rfl|cases h
theorem eqA_eq {a b:AV} (h:eqA a b=true):a=b:=by
 unfold eqA at h
 split at h
 . simp only[Bool.and_eq_true]at h
   rw[Nat.eq_of_beq_eq_true h.1,Nat.eq_of_beq_eq_true h.2.1,eqT_eq h.2.2.1,eqCs_eq h.2.2.2]
 . rw[eqCs_eq h]
 . exact eqS_eq h
def eqAs:List AV->List AV->Bool
 |[],[]=>true
 |a::r,b::s=>eqA a b&&eqAs r s
 |_,_=>false
theorem eqAs_eq:∀{a b:List AV},eqAs a b=true->a=b
 |[],[],_=>rfl
 | a::r,b::s,h=>by
   simp only[eqAs,Bool.and_eq_true]at h
   rw[eqA_eq h.1,eqAs_eq h.2]
 |[],_::_,h=>by cases h
 |_::_,[],h=>by cases h
theorem unown_unown (x:AV):unown (unown x)=unown x:=by
 cases x with
 |sl s n cs tk=>cases tk<;>rfl
 |_=>rfl
theorem lend_lend (x:AV):lend (lend x)=lend x:=by
 cases x with
 | agg cs=>
   show AV.agg ((cs.map unown).map unown)=AV.agg (cs.map unown)
   rw[List.map_map]
   congr 1
   exact List.map_congr_left (fun y _=>unown_unown y)
 |sl s n cs tk=>cases tk<;>rfl
 |_=>rfl
theorem map_lend_lend (l:List AV):(l.map lend).map lend=l.map lend:=by
 rw[List.map_map]
 exact List.map_congr_left (fun y _=>lend_lend y)
def reads (o:Option AFun):Bool:=
 match o with
 |some fi=>fi.con.isNone&&(Nat.beq fi.mode 1||(Nat.beq fi.mode 3||Nat.beq fi.mode 5))
 |none=>false
theorem pcA_lend {tab:FuncId->Option AFun} {cb:CB} {f:FuncId} {args:List AV} (h:reads (tab f)=true):pcA tab cb f (args.map lend)=pcA tab cb f args:=by
 unfold pcA
 cases hf:tab f with
 |none=>rfl
 | some fi=>
   rw[hf]at h
   simp only[reads,Bool.and_eq_true,Bool.or_eq_true,Option.isNone_iff_eq_none]at h
   obtain⟨hc,hm⟩:=h
   have ho:pcOn fi (args.map lend)=pcOn fi args:=by
     unfold pcOn
     rcases hm with hm|hm|hm
     . rw[Nat.eq_of_beq_eq_true hm];simp only[map_lend_lend]
     . rw[Nat.eq_of_beq_eq_true hm];simp only[map_lend_lend]
     . rw[Nat.eq_of_beq_eq_true hm];simp only[map_lend_lend]
   simp only[hc,ho,map_lend_lend]
theorem pc_lend1 {tab:FuncId->Option AFun} {f:FuncId} {args:List AV} {r:PR} (hr:reads (tab f)=true) (h:(cbL tab).pc f (args.map lend)=some r):(cbL tab).pc f args=some r:=by
 obtain⟨n,hn⟩:=cbL_pc.1 h
 cases n with
 |zero=>cases hn
 | succ n=>
   refine cbL_pc.2 ⟨n+1, ?_⟩
   have hn:pcA tab (cbs tab n) f (args.map lend)=some r:=hn
   rw[pcA_lend hr]at hn
   exact hn
structure Fact where
 f:FuncId
 args:List AV
 res:PR
def knownF:List Fact->FuncId->List AV->Option PR
 |[],_,_=>none
 |x::r,f,args=>if Nat.beq x.f f&&eqAs x.args (args.map lend)then some x.res else knownF r f args
def Facts (tab:FuncId->Option AFun) (l:List Fact):Prop:=∀x∈l,reads (tab x.f)=true/\(cbL tab).pc x.f x.args=some x.res
theorem knownF_ok {tab:FuncId->Option AFun}:∀{l:List Fact},Facts tab l->∀f args r,knownF l f args=some r->(cbL tab).pc f args=some r
 |[],_,_,_,_,h=>by cases h
 | x::l,hx,f,args,r,h=>by
   rw[knownF]at h
   split at h
   . rename_i hc
     rw[Bool.and_eq_true]at hc
     cases h
     obtain⟨h1,h2⟩:=hx x (List.mem_cons_self ..)
     have hf:=Nat.eq_of_beq_eq_true hc.1
     rw[hf,eqAs_eq hc.2]at h2
     rw[hf]at h1
     exact pc_lend1 h1 h2
   . exact knownF_ok (fun y hy=>hx y (List.mem_cons_of_mem _ hy)) f args r h
theorem fact_run {tab:FuncId->Option AFun} {l:List Fact} (hl:Facts tab l) (n:Nat) {f:FuncId} {args:List AV} {r:PR} (h:(cbsK tab (knownF l) n).pc f args=some r):(cbL tab).pc f args=some r:=pc_run (knownF_ok hl) n h
theorem Facts.nil (tab:FuncId->Option AFun):Facts tab []:=fun _ h=>by cases h
theorem Facts.cons {tab:FuncId->Option AFun} {x:Fact} {l:List Fact} (h:reads (tab x.f)=true) (k:(cbL tab).pc x.f x.args=some x.res) (hl:Facts tab l):Facts tab (x::l):=by
 intro y hy
 rcases List.mem_cons.1 hy with rfl|hy
 . exact⟨h,k⟩
 . exact hl y hy
end Go.Am
namespace Go.Slots
open Go Go.Am Go.Rec
def pairA (p:Int×Int):List AV:=[.int .u64 p.1,.int .u64 p.2]
def intA (j:Int):List AV:=[.int .i64 j]
instance : Even pairA 2 := ⟨fun _ => rfl⟩
instance : Even intA 1 := ⟨fun _ => rfl⟩
theorem hf_pairA (l:List (Int×Int)):hfL (encs pairA l)=true:=hfL_encs (fun _=>rfl) l
def tkOf {α:Type} (l:List α):Tk:=if l.isEmpty then .z else .ro
def right (left:Int) (n:Nat):Prop:=left≠0/\n % 2=0/\4<=n/\n<=56
instance (left : Int) (n : Nat) : Decidable (right left n) := inferInstanceAs (Decidable (_ /\ _))
def rawL:List (Int×Int)->Nat
 |[]=>0
 |x::r=>if x.2=0 then 0 else rawL r+1
def rdL (prev:Int):List (Int×Int)->List (Int×Int)
 |[]=>[]
 |x::r=>if x.2=0 then [] else if x.2=prev then rdL x.2 r else x::rdL x.2 r
def atL (prev:Int) (j:Nat):List (Int×Int)->List Int
 |[]=>[]
 |x::r=>if x.2=0 then [] else if x.2=prev then atL x.2 (j+1) r else(j:Int)::atL x.2 (j+1) r
def lastP (left:Int) (pre:List (Int×Int)):Int:=match pre.getLast? with
 |some x=>x.2
 |none=>left
theorem lastP_snoc (left:Int) (pre:List (Int×Int)) (x:Int×Int):lastP left (pre++[x])=x.2:=by simp[lastP]
def hasL (l:List (Int×Int)) (p:Int):Prop:=∃x∈l,x.2=p
instance (l : List (Int × Int)) (p : Int) : Decidable (hasL l p) := inferInstanceAs (Decidable (∃ x ∈ l,_))
theorem hasL_cons (x:Int×Int) (l:List (Int×Int)) (p:Int):hasL (x::l) p↔x.2=p∨hasL l p:=by simp[hasL]
def findL' (key:Int):List (Int×Int)->Nat
 |[]=>0
 |x::r=>if x.1<key then findL' key r+1 else 0
def keyAtI (l:List (Int×Int)) (i:Nat) (key:Int):Prop:=∃x,l[i]? =some x/\x.1=key
instance (l : List (Int × Int)) (i : Nat) (key : Int) : Decidable (keyAtI l i key) := by
 unfold keyAtI
 cases l[i]? with
 |none=>exact isFalse (by simp)
 |some x=>exact if h:x.1=key then isTrue ⟨x,rfl,h⟩else isFalse (by rintro ⟨y,hy,hk⟩;cases hy;exact h hk)
def row (ps:List (Int×Int)) (rest:List AV) (tk:Tk):AV:= .sl 1 (2*ps.length) (encs pairA ps++rest) tk
theorem row_ptr (pre:List (Int×Int)) (x:Int×Int) (r:List (Int×Int)) (rest:List AV):List.drop (2*(pre.length:Int)+1).toNat (encs pairA (pre++x::r)++rest)= .int .u64 x.2::(encs pairA r++rest):=by
 have:(2*(pre.length:Int)+1).toNat=pre.length*2+1:=by omega
 rw[this,<-List.drop_drop,drop_pre2,encs_cons]
 rfl
theorem row_key (pre:List (Int×Int)) (x:Int×Int) (r:List (Int×Int)) (rest:List AV):List.drop (2*(pre.length:Int)).toNat (encs pairA (pre++x::r)++rest)= .int .u64 x.1:: .int .u64 x.2::(encs pairA r++rest):=by
 have:(2*(pre.length:Int)).toNat=pre.length*2:=by omega
 rw[this,drop_pre2,encs_cons]
 rfl
theorem row_last (pre:List (Int×Int)) (x:Int×Int) (r:List (Int×Int)) (rest:List AV):List.drop (2*((pre.length:Int)+1)-1).toNat (encs pairA (pre++x::r)++rest)= .int .u64 x.2::(encs pairA r++rest):=by
 have:2*((pre.length:Int)+1)-1=2*(pre.length:Int)+1:=by omega
 rw[this,row_ptr]
def rowV (n:Nat) (cs:List AV) (tk:Tk) (left:Int):AV:= .agg [.sl 1 n cs tk,.int .u64 left]
def risingL:List (Int×Int)->Prop
 |x::y::r=>x.1<y.1/\risingL (y::r)
 |_=>True
def decRising:(l:List (Int×Int))->Decidable (risingL l)
 |[]=>isTrue trivial
 |[_]=>isTrue trivial
 | x::y::r=>by
   have:=decRising (y::r)
   unfold risingL
   exact inferInstance
instance (l : List (Int × Int)) : Decidable (risingL l) := decRising l
def distL (seen:List Int):List (Int×Int)->Prop
 |[]=>True
 |x::r=>x.2∉seen/\distL (seen++[x.2]) r
def decDist:(l:List (Int×Int))->(seen:List Int)->Decidable (distL seen l)
 |[],_=>isTrue trivial
 | x::r,seen=>by
   have:=decDist r (seen++[x.2])
   unfold distL
   exact inferInstance
instance (seen : List Int) (l : List (Int × Int)) : Decidable (distL seen l) := decDist l seen
def zeroL (l:List (Int×Int)):Prop:=∀x∈l,x.2=0
instance (l : List (Int × Int)) : Decidable (zeroL l) := inferInstanceAs (Decidable (∀ x ∈ l,x.2 = 0))
def eachL (prev:Int) (j:Nat):List (Int×Int)->List (Nat×(Int×Int))
 |[]=>[]
 |x::r=>if x.2=0 then [] else if x.2=prev then eachL x.2 (j+1) r else(j,x)::eachL x.2 (j+1) r
theorem eachL_snd (prev:Int) (j:Nat) (ps:List (Int×Int)):(eachL prev j ps).map (·.2)=rdL prev ps:=by
 induction ps generalizing prev j with
 |nil=>rfl
 | cons x r ih=>
   simp only[eachL,rdL]
   split
   . rfl
   . split
     . exact ih _ _
     . simp[ih]
def runY {σ α:Type} (stp:σ->Nat->α->σ×Bool):σ->List (Nat×α)->σ
 |s,[]=>s
 |s,x::r=>if(stp s x.1 x.2).2=true then runY stp (stp s x.1 x.2).1 r else(stp s x.1 x.2).1
def rises (pre:List (Int×Int)) (x:Int×Int):Prop:=match pre.getLast? with
 |some y=>y.1<x.1
 |none=>True
def fineF (left:Int) (pre:List (Int×Int)):List (Int×Int)->Prop
 |[]=>True
 |x::r=>rises pre x/\¬hasL pre x.2/\x.2≠left/\fineF left (pre++[x]) r
theorem fineF_iff (left:Int) (pre suf:List (Int×Int)):fineF left pre suf↔(match pre.getLast? with|some y=>risingL (y::suf)|none=>risingL suf)/\distL (left::pre.map (·.2)) suf:=by
 induction suf generalizing pre with
 |nil=>cases pre.getLast? <;>simp[fineF,risingL,distL]
 | cons x r ih=>
   have e:(pre++[x]).getLast? =some x:=by simp
   simp only[fineF,ih,e,distL,List.map_append,List.map_cons,List.map_nil,List.cons_append]
   have hh:hasL pre x.2↔x.2∈pre.map (·.2):=by simp[hasL]
   rw[hh,List.mem_cons,not_or]
   unfold rises
   cases hg:pre.getLast? with
   | none=>
     constructor
     . rintro ⟨_,h1,h2,h3,h4⟩;exact⟨h3,⟨h2,h1⟩,h4⟩
     . rintro ⟨h3,⟨h2,h1⟩,h4⟩;exact⟨trivial,h1,h2,h3,h4⟩
   | some y=>
     simp only[risingL]
     constructor
     . rintro ⟨h0,h1,h2,h3,h4⟩;exact⟨⟨h0,h3⟩,⟨h2,h1⟩,h4⟩
     . rintro ⟨⟨h0,h3⟩,⟨h2,h1⟩,h4⟩;exact⟨h0,h1,h2,h3,h4⟩
theorem fineF_top (left:Int) (l:List (Int×Int)):fineF left [] l↔risingL l/\distL [left] l:=by
 rw[fineF_iff];rfl
def okRun {σ α:Type} (ok:σ->Nat->α->Prop) (stp:σ->Nat->α->σ×Bool):σ->List (Nat×α)->Prop
 |_,[]=>True
 |s,x::r=>ok s x.1 x.2/\((stp s x.1 x.2).2=true->okRun ok stp (stp s x.1 x.2).1 r)
theorem okRun_any {σ α:Type} (stp:σ->Nat->α->σ×Bool) (l:List (Nat×α)):∀s,okRun (fun _ _ _=>True) stp s l:=by
 induction l with
 |nil=>intro s;trivial
 |cons x r ih=>intro s;exact⟨trivial,fun _=>ih _⟩
def okL (left:Int) (ps:List (Int×Int)):Prop:=
 risingL (rdL left ps)/\distL [left] (rdL left ps)/\(rdL left ps).length=rawL ps/\(rdL left ps).length<ps.length/\zeroL (ps.drop (rdL left ps).length)
instance (left : Int) (ps : List (Int × Int)) : Decidable (okL left ps) := inferInstanceAs (Decidable (_ /\ _ /\ _ /\ _ /\ _))
theorem rdL_le (left:Int) (ps:List (Int×Int)):(rdL left ps).length<=ps.length:=by
 induction ps generalizing left with
 |nil=>simp[rdL]
 | cons x r ih=>
   have:=ih x.2
   simp only[rdL,List.length_cons]
   split
   . simp
   . split
     . omega
     . simp only[List.length_cons];omega
theorem rawL_le (ps:List (Int×Int)):rawL ps<=ps.length:=by
 induction ps with
 |nil=>simp[rawL]
 | cons x r ih=>
   simp only[rawL,List.length_cons]
   split<;>omega
def pointerE (left:Int) (ps:List (Int×Int)) (p:Int×Int):Int:=if okL left ps then(if hasL (rdL left ps) p.2 then 2 else 0)else 190
def swapM (left:Int) (ps:List (Int×Int)) (p:Int×Int):List (Int×Int)×Int:=
 if pointerE left ps p≠0 then([],pointerE left ps p)
 else if keyAtI (rdL left ps) (findL' p.1 (rdL left ps)) p.1 then([(2*((findL' p.1 (rdL left ps):Nat):Int)+1,p.2)],0)else([],5)
def resT (x:List (Int×Int)×Int):AV:= .tup [slvR 2 putA x.1,.int .i64 x.2]
def shF (j:Nat):Nat->List (Int×Int)->List (Int×Int)
 |0,_=>[]
 |_+1,[]=>[]
 |c+1,y::r=>(2*(j:Int),y.1)::(2*(j:Int)+1,y.2)::shF (j+1) c r
def shiftM (ps:List (Int×Int)) (d m:Nat):List (Int×Int):=shF d (m-1-d) (ps.drop (d+1))++[(2*(m:Int)-1,0)]
def takeM (left:Int) (ps:List (Int×Int)) (key:Int):List (Int×Int)×Int:=
 if okL left ps then
   if keyAtI (rdL left ps) (findL' key (rdL left ps)) key then
     ((2*((findL' key (rdL left ps):Nat):Int)+1,lastP left (ps.take (findL' key (rdL left ps))))::shiftM ps (findL' key (rdL left ps)) (rdL left ps).length,0)
   else([],5)
 else([],190)
def dnF (i:Nat):List (Int×Int)->List (Int×Int)
 |[]=>[]
 |x::r=>dnF (i+1) r++[(2*(i:Int)+3,x.2),(2*(i:Int)+2,x.1)]
def putM (left:Int) (ps:List (Int×Int)) (p:Int×Int):List (Int×Int)×Int:=
 if pointerE left ps p≠0 then([],pointerE left ps p)
 else if keyAtI (rdL left ps) (findL' p.1 (rdL left ps)) p.1 then([],191)
 else if(rdL left ps).length+1<ps.length then
   ((2*((rdL left ps).length:Int)+3,0)::(dnF (findL' p.1 (rdL left ps)) ((rdL left ps).drop (findL' p.1 (rdL left ps)))++
     [(2*((findL' p.1 (rdL left ps):Nat):Int)+1,lastP left (ps.take (findL' p.1 (rdL left ps)))),(2*((findL' p.1 (rdL left ps):Nat):Int),p.1),(2*((findL' p.1 (rdL left ps):Nat):Int)+1,p.2)]),0)
 else([],3)
end Go.Slots
namespace Go.Nod
open Go Go.Am Go.Slots Go.Rec
def nmark:Int:=7522529147838689024
def leafL:Int:=9223372036854775808
def blockI (p:Int):Prop:=1<=p/\p<=2047
instance (p : Int) : Decidable (blockI p) := inferInstanceAs (Decidable (_ /\ _))
structure Hd where
 m:Int
 s:Int
 l:Int
 f:Int
 y:Int
 a:Int
 b:Int
 c:Int
def Hd.cells (h:Hd):List AV:=[.int .u64 h.m,.int .u64 h.s,.int .u64 h.l,.int .u64 h.f,.int .u64 h.y,.int .u64 h.a,.int .u64 h.b,.int .u64 h.c]
structure Hd.u (h:Hd):Prop where
 m:0<=h.m/\h.m<18446744073709551616
 s:0<=h.s/\h.s<18446744073709551616
 l:0<=h.l/\h.l<18446744073709551616
 f:0<=h.f/\h.f<18446744073709551616
 y:0<=h.y/\h.y<18446744073709551616
def Hd.ok (h:Hd):Prop:=nmark<=h.m/\h.m<=nmark+12/\h.s<=2047/\(if h.m=nmark then h.f=leafL else blockI h.f)/\h.y<=2/\h.a=0/\h.b=0/\h.c=0
instance (h : Hd) : Decidable h.ok := inferInstanceAs (Decidable (_ /\ _))
structure Nd where
 v:Int
 s:Int
 l:Int
 f:Int
 y:Int
 ps:List (Int×Int)
def Nd.cells (n:Nd) (p:AV):List AV:=[.int .i64 n.v,.int .i64 n.s,.int .u64 n.l,.int .u64 n.f,.int .i64 n.y,p]
def Nd.av (n:Nd):AV:= .agg (n.cells (slvR 2 pairA n.ps))
def nd0:Nd:=⟨0,0,0,0,0,[]⟩
theorem nd0_av:nd0.av= .agg [.int .i64 0,.int .i64 0,.int .u64 0,.int .u64 0,.int .i64 0,.sl 0 0 [] .z]:=rfl
theorem hf_Nd (n:Nd):n.av.hf=true:=by
 simp[Nd.av,Nd.cells,AV.hf,hfL,slvR_hf (f:=pairA) (fun _=>rfl)]
def ndOf (h:Hd) (ps:List (Int×Int)):Nd:=⟨h.m-nmark,h.s,h.l,h.f,h.y,rdL h.f ps⟩
def mayN (v l:Int) (p:Int×Int):Prop:=if v=0 then 1<=p.2/\p.2<=1099511627776/\l<=p.1 else blockI p.2/\l<p.1
instance (v l : Int) (p : Int × Int) : Decidable (mayN v l p) := by unfold mayN; exact inferInstance
def mayAll (v l:Int) (ps:List (Int×Int)):Prop:=∀p∈ps,mayN v l p
instance (v l : Int) (ps : List (Int × Int)) : Decidable (mayAll v l ps) := inferInstanceAs (Decidable (∀ p ∈ ps,_))
def chkE (h:Hd) (ps:List (Int×Int)):Int:=if okL h.f ps/\mayAll (h.m-nmark) h.l (rdL h.f ps)then 0 else 190
theorem Hd.left {h:Hd} (k:h.ok):h.f≠0:=by
 obtain⟨_,_,_,h4,_⟩:=k
 split at h4
 . rw[h4];decide
 . have:=h4.1;omega
theorem Hd.row {h:Hd} (k:h.ok) {ps:List (Int×Int)} (hp:ps.length=28):right h.f (2*ps.length):=⟨Hd.left k,by omega,by omega,by omega⟩
theorem Hd.leaf {h:Hd} (k:h.ok):h.m-nmark=0↔h.m=nmark:=by omega
def wordsA (h:Hd) (ps:List (Int×Int)) (rest:List AV):List AV:=h.cells++(encs pairA ps++rest)
theorem hf_words (h:Hd) (ps:List (Int×Int)) (rest:List AV) (hr:hfL rest=true):hfL (wordsA h ps rest)=true:=by
 rw[wordsA,hfL_append,hfL_append,hf_pairA,hr];rfl
theorem words_split:∀(xs:List Int),xs.length=64->∃(h:Hd) (ps:List (Int×Int)),encs u64A xs=wordsA h ps []/\ps.length=28/\xs=[h.m,h.s,h.l,h.f,h.y,h.a,h.b,h.c]++ps.flatMap fun p=>[p.1,p.2]
 | m::s::l::f::y::a::b::c::r,h=>by
   have pr:∀(n:Nat) (r:List Int),r.length=2*n->∃ps:List (Int×Int),encs u64A r=encs pairA ps/\ps.length=n/\r=ps.flatMap fun p=>[p.1,p.2]:=by
     intro n
     induction n with
     |zero=>intro r hr;exact⟨[],by rw[List.length_eq_zero_iff.1 hr];rfl,rfl,List.length_eq_zero_iff.1 hr⟩
     | succ n ih=>
       intro r hr
       match r,hr with
       | x::y::r,hr=>
         simp only[List.length_cons]at hr
         obtain⟨ps,h1,h2,h3⟩:=ih r (by omega)
         refine⟨(x,y)::ps, ?_,by simp[h2],by simp[<-h3]⟩
         rw[encs_cons,encs_cons,encs_cons,h1]
         rfl
   simp only[List.length_cons]at h
   obtain⟨ps,h1,h2,h3⟩:=pr 28 r (by omega)
   refine⟨⟨m,s,l,f,y,a,b,c⟩,ps, ?_,h2, ?_⟩
   . rw[wordsA,List.append_nil,<-h1]
     rfl
   . rw[<-h3];rfl
end Go.Nod
namespace Go.Proofs.YtogbblcnfcfflaaGreat
open Go Go.Am Go.Slots Go.Rec
theorem right_pc (left:Int) (n:Nat) (cs:List AV) (tk:Tk) (hn:(n:Int)<=9223372036854775807) (hc:hfL cs=true):(cbL tab).pc 163 [.int .u64 left,.sl 1 n cs tk]=some (.plain (.bool (decide (right left n)))):=by
 obtain⟨u1,e1,f1⟩:=lend_sl 1 n cs tk
 refine pc_wp (fi:=c163) rfl ?_ (by simp[c163]) (by decide) ?_
 . simp only[pcOn,List.map_cons,List.map_nil,hfL,hf_lend_sl,hf_lend_int,hf_lend_bool,hf_lend_str,hfL_append,Bool.and_self,Bool.and_true,Bool.true_and,c163,row,hc,hf_pairA]
 unfold c163
 rw[List.map_cons,List.map_cons,List.map_nil,e1,lend_int]
 by_cases h1:left=0
 . subst h1
   have:¬right 0 n:=fun h=>h.1 rfl
   simp(disch:=omega)only[wk,tupled,↓reduceIte,reduceEqDiff,reduceEq,reduceAdd,reduceCtorEq,purify,unownT,lend,unown,AV.hf,this]
 by_cases h2:n % 2=0
 case neg=>
   have:¬right left n:=fun h=>h2 h.2.1
   simp(disch:=omega)only[wk,tupled,↓reduceIte,reduceEqDiff,reduceEq,reduceAdd,reduceCtorEq,h1,purify,unownT,lend,unown,AV.hf,this]
 by_cases h3:4<=n
 case neg=>
   have:¬right left n:=fun h=>h3 h.2.2.1
   simp(disch:=omega)only[wk,tupled,↓reduceIte,reduceEqDiff,reduceEq,reduceAdd,reduceCtorEq,h1,purify,unownT,lend,unown,AV.hf,this]
 have:right left n↔(n:Int)<=56:=⟨fun h=>by have:=h.2.2.2;omega,fun h=>⟨h1,h2,h3,by omega⟩⟩
 simp(disch:=omega)only[wk,tupled,↓reduceIte,reduceEqDiff,reduceEq,reduceAdd,reduceCtorEq,h1,purify,unownT,lend,unown,AV.hf,this]
theorem raw_pc (ps:List (Int×Int)) (rest:List AV) (tk:Tk) (hn:ps.length<=1000) (hc:hfL rest=true):(cbL tab).pc 100 [row ps rest tk]=some (.plain (.int .i64 (rawL ps:Nat))):=by
 obtain⟨u1,e1,f1⟩:=lend_sl 1 (2*ps.length) (encs pairA ps++rest) tk
 refine pc_wp (fi:=c100) rfl ?_ (by simp[c100]) (by decide) ?_
 . simp only[pcOn,List.map_cons,List.map_nil,hfL,hf_lend_sl,hf_lend_int,hf_lend_bool,hf_lend_str,hfL_append,Bool.and_self,Bool.and_true,Bool.true_and,c100,row,hc,hf_pairA]
 unfold c100
 rw[List.map_cons,List.map_nil,row,e1]
 simp(disch:=omega)only[wk,tupled,↓reduceIte,reduceEqDiff,reduceEq,reduceAdd,reduceCtorEq]
 refine loop_ind (fun(x:List (Int×Int)×List (Int×Int)) E df H=>ps=x.1++x.2/\rawL ps=x.1.length+rawL x.2/\E 0=row ps rest u1/\E 3= .int .i64 (x.1.length:Nat)/\df=[]/\H=[])
   (fun x=>x.2.length) ([],ps) (by decide) (.inl rfl) ⟨rfl,by simp,rfl,rfl,rfl,rfl⟩ ?_
 intro ⟨pre,suf⟩ E df H ih hP
 obtain⟨a1,a2,E0,E3,hdf,hH⟩:=hP
 dsimp only at a1 a2 E3
 subst hdf hH a1
 simp only[List.length_append]at hn
 cases suf with
 | nil=>
   simp only[rawL,Nat.add_zero]at a2
   simp(disch:=omega)only[wk,tupled,↓reduceIte,reduceEqDiff,reduceEq,reduceAdd,reduceCtorEq,E0,E3,row,purify,unownT,lend,unown,AV.hf,a2]
 | cons x r=>
   simp only[List.length_cons]at hn
   by_cases hx:x.2=0
   . simp only[rawL,hx,if_true,Nat.add_zero]at a2
     simp(disch:=omega)only[wk,tupled,↓reduceIte,reduceEqDiff,reduceEq,reduceAdd,reduceCtorEq,E0,E3,row,row_ptr,hx,purify,unownT,lend,unown,AV.hf,a2]
   . simp(disch:=omega)only[wk,tupled,↓reduceIte,reduceEqDiff,reduceEq,reduceAdd,reduceCtorEq,E0,E3,row,row_ptr,hx]
     refine ih (pre++[x],r) _ _ _ (by simp) ?_
     exact⟨by simp,by simp only[a2,rawL,hx,if_false,List.length_append,List.length_cons,List.length_nil];omega,by simp only[en,↓reduceIte,reduceEqDiff,E0,row],by simp only[en,↓reduceIte,reduceEqDiff],rfl,rfl⟩
theorem ahead_pc (left:Int) (pre r:List (Int×Int)) (rest:List AV) (tk:Tk) (hn:(pre++r).length<=1000) (hc:hfL rest=true):
   (cbL tab).pc 101 [.int .u64 left,row (pre++r) rest tk,.int .i64 (pre.length:Nat)]=some (.plain (.int .u64 (lastP left pre))):=by
 obtain⟨u1,e1,f1⟩:=lend_sl 1 (2*(pre++r).length) (encs pairA (pre++r)++rest) tk
 refine pc_wp (fi:=c101) rfl ?_ (by simp[c101]) (by decide) ?_
 . simp only[pcOn,List.map_cons,List.map_nil,hfL,hf_lend_sl,hf_lend_int,hf_lend_bool,hf_lend_str,hfL_append,Bool.and_self,Bool.and_true,Bool.true_and,c101,row,hc,hf_pairA]
 unfold c101
 rw[List.map_cons,List.map_cons,List.map_cons,List.map_nil,row,e1,lend_int,lend_int]
 rcases List.eq_nil_or_concat pre with rfl|⟨p',x,rfl⟩
 . simp(disch:=omega)only[wk,tupled,↓reduceIte,reduceEqDiff,reduceEq,reduceAdd,reduceCtorEq,purify,unownT,lend,unown,AV.hf,lastP,List.getLast?_nil]
 . simp only[List.concat_eq_append,List.append_assoc,List.cons_append,List.nil_append]at*
   simp only[List.length_append,List.length_cons]at hn
   simp(disch:=omega)only[wk,tupled,↓reduceIte,reduceEqDiff,reduceEq,reduceAdd,reduceCtorEq,purify,unownT,lend,unown,AV.hf,lastP_snoc,row_last]
theorem has_pc (l:List (Int×Int)) (p:Int) (rest:List AV) (sz:Nat) (tk:Tk) (hn:l.length<=1000) (hz:l≠[]->sz=2) (hc:hfL rest=true):(cbL tab).pc 224 [.sl sz l.length (encs pairA l++rest) tk,.int .u64 p]=some (.plain (.bool (decide (hasL l p)))):=by
 obtain⟨u1,e1,f1⟩:=lend_sl sz l.length (encs pairA l++rest) tk
 refine pc_wp (fi:=c224) rfl ?_ (by simp[c224]) (by decide) ?_
 . simp only[pcOn,List.map_cons,List.map_nil,hfL,hf_lend_sl,hf_lend_int,hf_lend_bool,hf_lend_str,hfL_append,Bool.and_self,Bool.and_true,Bool.true_and,c224,hf_pairA,hc]
 unfold c224
 rw[List.map_cons,List.map_cons,List.map_nil,e1,lend_int]
 simp(disch:=omega)only[wk,tupled,↓reduceIte,reduceEqDiff,reduceEq,reduceAdd,reduceCtorEq]
 refine loop_ind (fun(x:List (Int×Int)×List (Int×Int)) E df H=>l=x.1++x.2/\(hasL l p↔hasL x.2 p)/\E 0= .sl sz l.length (encs pairA l++rest) u1/\E 1= .int .u64 p/\E 5= .int .i64 (x.1.length:Nat)/\df=[]/\H=[])
   (fun x=>x.2.length) ([],l) (by decide) (.inl rfl) ⟨rfl,Iff.rfl,rfl,rfl,rfl,rfl,rfl⟩ ?_
 intro ⟨pre,suf⟩ E df H ih hP
 obtain⟨a1,a2,E0,E1,E5,hdf,hH⟩:=hP
 dsimp only at a1 a2 E5
 subst hdf hH a1
 simp only[List.length_append]at hn
 cases suf with
 | nil=>
   have:¬hasL (pre++[]) p:=by rw[a2];simp[hasL]
   simp(disch:=omega)only[wk,tupled,↓reduceIte,reduceEqDiff,reduceEq,reduceAdd,reduceCtorEq,E0,E1,E5,purify,unownT,lend,unown,AV.hf,this]
 | cons x r=>
   simp only[List.length_cons]at hn
   obtain rfl:=hz (by simp)
   rw[hasL_cons]at a2
   obtain⟨k,q⟩:=x
   by_cases hx:q=p
   . have:hasL (pre++(k,q)::r) p:=a2.2 (.inl hx)
     simp(disch:=omega)only[wk,tupled,↓reduceIte,reduceEqDiff,reduceEq,reduceAdd,reduceCtorEq,E0,E1,E5,pairA,hx,purify,unownT,lend,unown,AV.hf]
     simp[hx▸this]
   . simp(disch:=omega)only[wk,tupled,↓reduceIte,reduceEqDiff,reduceEq,reduceAdd,reduceCtorEq,E0,E1,E5,pairA,hx]
     refine ih (pre++[(k,q)],r) _ _ _ (by simp) ?_
     exact⟨by simp,by rw[a2];simp[hx],by simp only[en,↓reduceIte,reduceEqDiff,E0],by simp only[en,↓reduceIte,reduceEqDiff,E1],by simp only[en,↓reduceIte,reduceEqDiff],rfl,rfl⟩
theorem must_px (b:Bool) (e:Int) (H:Heap):pcx (cbL tab) 198 [.bool b,.int .i64 e] H=if b=true then some (.plain (.tup []))else some (.pan [(.iface 37 (.int .i64 e),false)]):=by
 cases b
 . rw[if_neg (by simp)]
   refine pcx_N rfl (pc_wp (fi:=c198) rfl rfl (by simp[c198]) (by decide) ?_)
   unfold c198
   simp(disch:=omega)only[wk,tupled,↓reduceIte,reduceEqDiff,reduceEq,reduceAdd,reduceCtorEq,lend_int,lend_bool,purify,hfL,AV.hf,Bool.not_false,Bool.false_eq_true,Bool.and_true]
 . rw[if_pos rfl]
   refine pcx_N rfl (pc_wp (fi:=c198) rfl rfl (by simp[c198]) (by decide) ?_)
   unfold c198
   simp(disch:=omega)only[wk,tupled,↓reduceIte,reduceEqDiff,reduceEq,reduceAdd,reduceCtorEq,lend_int,lend_bool,purify,unownT,lend,unown,AV.hf,hfL,Bool.not_true,Bool.false_eq_true]
theorem many_px (n:Nat) (cs:List AV) (tk:Tk) (H:Heap) (hn:(n:Int)<=9223372036854775807) (hc:hfL cs=true) (ht:tk.hf=true):pcx (cbL tab) 199 [.sl 1 n cs tk] H=some (.plain (.int .i64 ((n:Int)/2))):=by
 obtain⟨u1,e1,f1⟩:=lend_sl 1 n cs tk
 refine pcx_L rfl (by rw[List.map_cons,List.map_nil,lendK_sl]) (pc_wp (fi:=c199) rfl ?_ (by simp[c199]) (by decide) ?_) rfl
 . simp only[pcOn,List.map_cons,List.map_nil,hfL,hf_lend_sl,hf_lend_int,hf_lend_bool,hf_lend_str,hfL_append,Bool.and_self,Bool.and_true,Bool.true_and,c199,AV.hf,hc,ht]
 unfold c199
 rw[List.map_cons,List.map_nil,e1]
 simp(disch:=omega)only[wk,tupled,↓reduceIte,reduceEqDiff,reduceEq,reduceAdd,reduceCtorEq,purify,unownT,lend,unown,AV.hf]
theorem slotsright_px (left:Int) (n:Nat) (cs:List AV) (tk:Tk) (H:Heap) (hn:(n:Int)<=9223372036854775807) (hc:hfL cs=true) (ht:tk.hf=true):pcx (cbL tab) 218 [rowV n cs tk left] H=some (.plain (.bool (decide (right left n)))):=by
 obtain⟨u1,e1,f1⟩:=lend_sl 1 n cs tk
 have hlend:lend (rowV n cs tk left)=rowV n cs u1 left:=by
   cases tk<;>cases e1<;>rfl
 refine pcx_L rfl (by rw[List.map_cons,List.map_nil,rowV,lendK_agg,List.map_cons,List.map_cons,List.map_nil,lendK_sl,lendK_int]) (pc_wp (fi:=c218) rfl ?_ (by simp[c218]) (by decide) ?_) rfl
 . rw[<-rowV];simp only[pcOn,List.map_cons,List.map_nil,hfL,hf_lend_sl,hf_lend_int,hf_lend_bool,hf_lend_str,hfL_append,Bool.and_self,Bool.and_true,Bool.true_and,c218,hlend];simp[rowV,AV.hf,hfL,hc,ht,f1]
 rw[<-rowV]
 unfold c218
 rw[List.map_cons,List.map_nil,hlend,rowV]
 have m1:=fun H=>many_px n cs u1 H hn hc f1
 by_cases h1:left=0
 . subst h1
   have:¬right 0 n:=fun h=>h.1 rfl
   simp(disch:=omega)only[wk,tupled,↓reduceIte,reduceEqDiff,reduceEq,reduceAdd,reduceCtorEq,purify,unownT,lend,unown,AV.hf,this]
 by_cases h2:n % 2=0
 case neg=>
   have:¬right left n:=fun h=>h2 h.2.1
   simp(disch:=omega)only[wk,tupled,↓reduceIte,reduceEqDiff,reduceEq,reduceAdd,reduceCtorEq,h1,m1,purify,unownT,lend,unown,AV.hf,this]
 by_cases h3:4<=n
 case neg=>
   have:¬right left n:=fun h=>h3 h.2.2.1
   simp(disch:=omega)only[wk,tupled,↓reduceIte,reduceEqDiff,reduceEq,reduceAdd,reduceCtorEq,h1,m1,purify,unownT,lend,unown,AV.hf,this]
 have:right left n↔(n:Int)/2<=28:=⟨fun h=>by have:=h.2.2.2;omega,fun h=>⟨h1,h2,h3,by omega⟩⟩
 simp(disch:=omega)only[wk,tupled,↓reduceIte,reduceEqDiff,reduceEq,reduceAdd,reduceCtorEq,h1,m1,purify,unownT,lend,unown,AV.hf,this]
theorem ptr_px (pre:List (Int×Int)) (x:Int×Int) (r:List (Int×Int)) (rest:List AV) (tk:Tk) (H:Heap) (hn:(pre++x::r).length<=1000) (hc:hfL rest=true) (ht:tk.hf=true):
   pcx (cbL tab) 220 [row (pre++x::r) rest tk,.int .i64 (pre.length:Nat)] H=some (.plain (.int .u64 x.2)):=by
 obtain⟨u1,e1,f1⟩:=lend_sl 1 (2*(pre++x::r).length) (encs pairA (pre++x::r)++rest) tk
 refine pcx_L rfl (by rw[List.map_cons,List.map_cons,List.map_nil,row,lendK_sl,lendK_int]) (pc_wp (fi:=c220) rfl ?_ (by simp[c220]) (by decide) ?_) rfl
 . simp only[pcOn,List.map_cons,List.map_nil,hfL,hf_lend_sl,hf_lend_int,hf_lend_bool,hf_lend_str,hfL_append,Bool.and_self,Bool.and_true,Bool.true_and,c220,AV.hf,hc,ht,hf_pairA]
 unfold c220
 rw[List.map_cons,List.map_cons,List.map_nil,e1,lend_int]
 simp only[List.length_append,List.length_cons]at hn
 simp(disch:=omega)only[wk,tupled,↓reduceIte,reduceEqDiff,reduceEq,reduceAdd,reduceCtorEq,row_ptr,purify,unownT,lend,unown,AV.hf]
theorem key_px (pre:List (Int×Int)) (x:Int×Int) (r:List (Int×Int)) (rest:List AV) (tk:Tk) (H:Heap) (hn:(pre++x::r).length<=1000) (hc:hfL rest=true) (ht:tk.hf=true):
   pcx (cbL tab) 221 [row (pre++x::r) rest tk,.int .i64 (pre.length:Nat)] H=some (.plain (.int .u64 x.1)):=by
 obtain⟨u1,e1,f1⟩:=lend_sl 1 (2*(pre++x::r).length) (encs pairA (pre++x::r)++rest) tk
 refine pcx_L rfl (by rw[List.map_cons,List.map_cons,List.map_nil,row,lendK_sl,lendK_int]) (pc_wp (fi:=c221) rfl ?_ (by simp[c221]) (by decide) ?_) rfl
 . simp only[pcOn,List.map_cons,List.map_nil,hfL,hf_lend_sl,hf_lend_int,hf_lend_bool,hf_lend_str,hfL_append,Bool.and_self,Bool.and_true,Bool.true_and,c221,AV.hf,hc,ht,hf_pairA]
 unfold c221
 rw[List.map_cons,List.map_cons,List.map_nil,e1,lend_int]
 simp only[List.length_append,List.length_cons]at hn
 simp(disch:=omega)only[wk,tupled,↓reduceIte,reduceEqDiff,reduceEq,reduceAdd,reduceCtorEq,row_key,purify,unownT,lend,unown,AV.hf]
theorem lend_rowV (n:Nat) (cs:List AV) (tk:Tk) (left:Int):∃u,lend (rowV n cs tk left)=rowV n cs u left/\u.hf=true:=by
 cases tk<;>exact⟨_,rfl,rfl⟩
theorem hf_rowV (n:Nat) (cs:List AV) (tk:Tk) (left:Int):(rowV n cs tk left).hf=(hfL cs&&tk.hf):=by simp[rowV,AV.hf,hfL]
theorem hf_lend_rowV (n:Nat) (cs:List AV) (tk:Tk) (left:Int):(lend (rowV n cs tk left)).hf=hfL cs:=by
 cases tk<;>simp[rowV,lend,unown,AV.hf,hfL,Tk.hf]
theorem lendK_rowV (H:Heap) (k n:Nat) (cs:List AV) (tk:Tk) (left:Int):lendK H k (rowV n cs tk left)=rowV n cs tk left:=by
 cases k with
 |zero=>rfl
 |succ k=>rw[rowV,lendK_agg,List.map_cons,List.map_cons,List.map_nil,lendK_sl,lendK_int]
theorem slotsraw_px (left:Int) (ps:List (Int×Int)) (rest:List AV) (tk:Tk) (H:Heap) (hn:ps.length<=1000) (hc:hfL rest=true) (ht:tk.hf=true):
   pcx (cbL tab) 219 [rowV (2*ps.length) (encs pairA ps++rest) tk left] H=some (.plain (.int .i64 (rawL ps:Nat))):=by
 obtain⟨u1,e1,f1⟩:=lend_rowV (2*ps.length) (encs pairA ps++rest) tk left
 refine pcx_L rfl (by rw[List.map_cons,List.map_nil,lendK_rowV]) (pc_wp (fi:=c219) rfl ?_ (by simp[c219]) (by decide) ?_) rfl
 . simp only[pcOn,List.map_cons,List.map_nil,hfL,hf_lend_sl,hf_lend_int,hf_lend_bool,hf_lend_str,hfL_append,Bool.and_self,Bool.and_true,Bool.true_and,c219,hf_rowV,hf_lend_rowV,hc,ht,hf_pairA]
 unfold c219
 rw[List.map_cons,List.map_nil,e1,rowV]
 simp(disch:=omega)only[wk,tupled,↓reduceIte,reduceEqDiff,reduceEq,reduceAdd,reduceCtorEq]
 refine loop_ind (fun(x:List (Int×Int)×List (Int×Int)) E df H=>ps=x.1++x.2/\rawL ps=x.1.length+rawL x.2/\E 1= .ptr 0 0/\E 2= .int .i64 (x.1.length:Nat)/\df=[]/\H=[.cells [row ps rest u1,.int .u64 left]])
   (fun x=>x.2.length) ([],ps) (by decide) (.inl rfl) ⟨rfl,by simp,rfl,rfl,rfl,rfl⟩ ?_
 intro ⟨pre,suf⟩ E df H ih hP
 obtain⟨a1,a2,E1,E2,hdf,hH⟩:=hP
 dsimp only at a1 a2 E2
 subst hdf hH a1
 have m1:=fun H=>many_px (2*(pre++suf).length) (encs pairA (pre++suf)++rest) u1 H (by omega) (by rw[hfL_append,hf_pairA,hc];rfl) f1
 simp only[List.length_append]at hn m1
 cases suf with
 | nil=>
   simp only[rawL,Nat.add_zero,List.length_nil]at a2 m1
   simp(disch:=omega)only[wk,tupled,↓reduceIte,reduceEqDiff,reduceEq,reduceAdd,reduceCtorEq,E1,E2,row,m1,purify,unownT,lend,unown,AV.hf,a2]
 | cons x r=>
   have p1:=fun H=>ptr_px pre x r rest u1 H (by simp only[List.length_append];exact hn) hc f1
   simp only[List.length_cons,row,List.length_append]at hn m1 p1
   by_cases hx:x.2=0
   . simp only[rawL,hx,if_true,Nat.add_zero]at a2
     simp(disch:=omega)only[wk,tupled,↓reduceIte,reduceEqDiff,reduceEq,reduceAdd,reduceCtorEq,E1,E2,row,m1,p1,hx,purify,unownT,lend,unown,AV.hf,a2]
   . simp(disch:=omega)only[wk,tupled,↓reduceIte,reduceEqDiff,reduceEq,reduceAdd,reduceCtorEq,E1,E2,row,m1,p1,hx]
     refine ih (pre++[x],r) _ _ _ (by simp) ?_
     exact⟨by simp,by simp only[a2,rawL,hx,if_false,List.length_append,List.length_cons,List.length_nil];omega,by simp only[en,↓reduceIte,reduceEqDiff,E1],by simp only[en,↓reduceIte,reduceEqDiff],rfl,by simp[row]⟩
theorem slotsahead_px (left:Int) (pre r:List (Int×Int)) (rest:List AV) (tk:Tk) (H:Heap) (hn:(pre++r).length<=1000) (hc:hfL rest=true) (ht:tk.hf=true):
   pcx (cbL tab) 203 [rowV (2*(pre++r).length) (encs pairA (pre++r)++rest) tk left,.int .i64 (pre.length:Nat)] H=some (.plain (.int .u64 (lastP left pre))):=by
 obtain⟨u1,e1,f1⟩:=lend_rowV (2*(pre++r).length) (encs pairA (pre++r)++rest) tk left
 refine pcx_L rfl (by rw[List.map_cons,List.map_cons,List.map_nil,lendK_rowV,lendK_int]) (pc_wp (fi:=c203) rfl ?_ (by simp[c203]) (by decide) ?_) rfl
 . simp only[pcOn,List.map_cons,List.map_nil,hfL,hf_lend_sl,hf_lend_int,hf_lend_bool,hf_lend_str,hfL_append,Bool.and_self,Bool.and_true,Bool.true_and,c203,hf_rowV,hf_lend_rowV,hc,ht,hf_pairA,AV.hf]
 unfold c203
 rw[List.map_cons,List.map_cons,List.map_nil,e1,rowV,lend_int]
 rcases List.eq_nil_or_concat pre with rfl|⟨p',x,rfl⟩
 . simp(disch:=omega)only[wk,tupled,↓reduceIte,reduceEqDiff,reduceEq,reduceAdd,reduceCtorEq,purify,unownT,lend,unown,AV.hf,lastP,List.getLast?_nil]
 . have p1:=fun H=>ptr_px p' x r rest u1 H (by simpa using hn) hc f1
   simp only[List.concat_eq_append,List.append_assoc,List.cons_append,List.nil_append,row,List.length_append,List.length_cons,List.length_nil]at*
   have e2:((p'.length:Int)+1-1)=p'.length:=by omega
   simp(disch:=omega)only[wk,tupled,↓reduceIte,reduceEqDiff,reduceEq,reduceAdd,reduceCtorEq,e2,p1,purify,unownT,lend,unown,AV.hf,lastP_snoc]
theorem less_px (x y:Int×Int) (H:Heap):pcx (cbL tab) 268 [.agg (pairA x),.agg (pairA y)] H=some (.plain (.bool (decide (x.1<y.1)))):=by
 refine pcx_N rfl (pc_wp (fi:=c268) rfl rfl (by simp[c268]) (by decide) ?_)
 unfold c268
 simp(disch:=omega)only[wk,tupled,↓reduceIte,reduceEqDiff,reduceEq,reduceAdd,reduceCtorEq,lend,unown,pairA,purify,unownT,lend,unown,AV.hf]
def cmpI (a b:Int):Int:=if a<b then-1 else if b<a then 1 else 0
structure YS {σ:Type} (id k0:Nat) (cnt:σ->Nat) (ok:σ->Nat->Int×Int->Prop) (R:σ->Heap->Prop) (stp:σ->Nat->Int×Int->σ×Bool):Prop where
 step:∀s H (j:Nat) x,k0<=H.length->cnt s<=j->j<=1000->ok s j x->R s H->cnt (stp s j x).1<=j+1/\∃H',(cbL tab).yl id [.int .i64 (j:Nat),.agg (pairA x)] H=some (.ret (.bool (stp s j x).2),H')/\R (stp s j x).1 H'/\H.length<=H'.length∧
   ∀i o,k0<=i->(∀s,o≠ .tok s)->H[i]? =some o->H'[i]? =some o
 push:∀s H o,R s H->R s (H++[o])
 set:∀s H i o o',k0<=i->R s H->(∀s,o≠ .tok s)->H[i]? =some o->R s (H.set i o')
theorem each_ic {σ:Type} {R:σ->Heap->Prop} {stp:σ->Nat->Int×Int->σ×Bool} {id k0 a b:Nat} {cnt:σ->Nat} {ok:σ->Nat->Int×Int->Prop} (ys:YS id k0 cnt ok R stp) {s0:σ} {H:Heap} (hk:k0<=H.length) (hR:R s0 H) {left:Int} {ps:List (Int×Int)} {rest:List AV} {tk:Tk}
   (ha:H[a]? =some (.cells [row ps rest tk])) (hb:H[b]? =some (.cells [.int .u64 left])) (hc:hfL rest=true) (ht:tk.hf=true) (hr:right left (2*ps.length)) (hcnt:cnt s0=0) (hok:okRun ok stp s0 (eachL left 0 ps)):
   ∃o H',(cbL tab).ic 217 [.yld id,.ptr a 0,.ptr b 0] H=some (o,H')/\o= .ret (.tup [])/\R (runY stp s0 (eachL left 0 ps)) H'/\H.length<=H'.length:=by
 refine ic_wp (fi:=c217) rfl (by simp[pcOn,c217,lend,unown,hfL,AV.hf]) (by simp[c217]) (by decide) ?_
 unfold c217
 have hn:=hr.2.2.2
 have hcs:hfL (encs pairA ps++rest)=true:=by rw[hfL_append,hf_pairA,hc];rfl
 have r1:=fun H=>slotsright_px left (2*ps.length) (encs pairA ps++rest) tk H (by omega) hcs ht
 have r2:=fun H=>slotsraw_px left ps rest tk H (by omega) hc ht
 unfold rowV at r1 r2
 rw[row]at ha
 have e1:∀o:AObj,(H++[o])[H.length]? =some o:=fun o=>by simp
 have e2:∀o o':AObj,((H++[o]).set H.length o')[H.length]? =some o':=fun o o'=>by simp
 simp(disch:=omega)only[wk,tupled,↓reduceIte,reduceEqDiff,reduceEq,reduceAdd,reduceCtorEq,ha,hb,e1,e2,r1,r2,hr,Bool.not_true]
 have hrw:=rawL_le ps
 refine loop_ind (fun(x:List (Int×Int)×List (Int×Int)×σ) E df H1=>ps=x.1++x.2.1/\rawL ps=x.1.length+rawL x.2.1/\runY stp s0 (eachL left 0 ps)=runY stp x.2.2 (eachL (lastP left x.1) x.1.length x.2.1)/\E 0= .yld id/\E 4= .ptr H.length 0∧
     E 13= .int .i64 (rawL ps:Nat)/\E 14= .int .i64 (x.1.length:Nat)/\df=[]/\H1[H.length]? =some (.cells [row ps rest tk,.int .u64 left])/\R x.2.2 H1/\H.length<=H1.length/\cnt x.2.2<=x.1.length/\okRun ok stp x.2.2 (eachL (lastP left x.1) x.1.length x.2.1))
   (fun x=>x.2.1.length) ([],ps,s0) (by decide) (.inl rfl) ⟨rfl,by simp,rfl,rfl,rfl,rfl,rfl,rfl,e2 _ _,ys.set _ _ _ _ _ hk (ys.push _ _ _ hR) (fun s e=>by cases e) (e1 _),by simp,by simp[hcnt],hok⟩ ?_
 intro ⟨pre,suf,s⟩ E df H1 ih hP
 obtain⟨a1,a2,a3,E0,E4,E13,E14,hdf,hH,hR1,hle,hct,hok1⟩:=hP
 dsimp only at a1 a2 a3 E14 hR1 hct hok1
 subst hdf a1
 simp only[List.length_append]at hn
 cases suf with
 | nil=>
   simp only[rawL,Nat.add_zero,eachL,runY]at a2 a3
   simp(disch:=omega)only[wk,tupled,↓reduceIte,reduceEqDiff,reduceEq,reduceAdd,reduceCtorEq,E0,E4,E13,E14,a2]
   rw[a3]
   exact⟨hR1,hle⟩
 | cons x r=>
   simp only[List.length_cons]at hn
   by_cases hx:x.2=0
   . simp only[rawL,hx,if_true,Nat.add_zero,eachL,runY]at a2 a3
     simp(disch:=omega)only[wk,tupled,↓reduceIte,reduceEqDiff,reduceEq,reduceAdd,reduceCtorEq,E0,E4,E13,E14,a2]
     rw[a3]
     exact⟨hR1,hle⟩
   have hl:(pre++x::r).length<=1000:=by simp only[List.length_append,List.length_cons];omega
   have p1:=fun H=>ptr_px pre x r rest tk H hl hc ht
   have p2:=fun H=>key_px pre x r rest tk H hl hc ht
   have p3:=fun H=>slotsahead_px left pre (x::r) rest tk H hl hc ht
   have hraw:pre.length<rawL (pre++x::r):=by rw[a2];simp only[rawL,hx,if_false];omega
   simp only[rowV,row,List.length_append,List.length_cons]at p1 p2 p3 hH
   by_cases hq:x.2=lastP left pre
   . have hok2:okRun ok stp s (eachL x.2 (pre.length+1) r):=by
       have h:=hok1
       rw[eachL,if_neg hx,if_pos hq]at h
       exact h
     simp(disch:=omega)only[wk,tupled,↓reduceIte,reduceEqDiff,reduceEq,reduceAdd,reduceCtorEq,E0,E4,E13,E14,hH,p1,p2,p3,hq]
     refine ih (pre++[x],r,s) _ _ _ (by simp) ?_
     refine⟨by simp,by simp only[a2,rawL,hx,if_false,List.length_append,List.length_cons,List.length_nil];omega, ?_,by simp only[en,↓reduceIte,reduceEqDiff,E0],by simp only[en,↓reduceIte,reduceEqDiff,E4],by simp only[en,↓reduceIte,reduceEqDiff,E13],by simp only[en,↓reduceIte,reduceEqDiff],rfl,by simpa[row] using hH,hR1,hle,by simp;omega,by simpa only[lastP_snoc,List.length_append,List.length_cons,List.length_nil,Nat.zero_add] using hok2⟩
     rw[a3]
     simp only[eachL,hx,if_false,<-hq,if_true,lastP_snoc,List.length_append,List.length_cons,List.length_nil,Nat.zero_add]
   . have hok2:ok s pre.length x/\((stp s pre.length x).2=true->okRun ok stp (stp s pre.length x).1 (eachL x.2 (pre.length+1) r)):=by
       have h:=hok1
       rw[eachL,if_neg hx,if_neg hq]at h
       exact h
     obtain⟨y0,H2,y1,y2,y3,y4⟩:=ys.step s H1 pre.length x (Nat.le_trans hk hle) hct (by omega) hok2.1 hR1
     rw[pairA]at y1
     have hH2:=y4 _ _ hk (fun s e=>by cases e) hH
     by_cases hst:(stp s pre.length x).2=true
     . simp(disch:=omega)only[wk,tupled,↓reduceIte,reduceEqDiff,reduceEq,reduceAdd,reduceCtorEq,E0,E4,E13,E14,hH,p1,p2,p3,hq,y1,hst,Bool.not_true]
       refine ih (pre++[x],r,(stp s pre.length x).1) _ _ _ (by simp) ?_
       refine⟨by simp,by simp only[a2,rawL,hx,if_false,List.length_append,List.length_cons,List.length_nil];omega, ?_,by simp only[en,↓reduceIte,reduceEqDiff,E0],by simp only[en,↓reduceIte,reduceEqDiff,E4],by simp only[en,↓reduceIte,reduceEqDiff,E13],by simp only[en,↓reduceIte,reduceEqDiff],rfl,by simpa[row] using hH2,y2,by omega,by simpa using y0,by simpa only[lastP_snoc,List.length_append,List.length_cons,List.length_nil,Nat.zero_add] using hok2.2 hst⟩
       rw[a3]
       simp only[eachL,hx,if_false,hq,lastP_snoc,List.length_append,List.length_cons,List.length_nil,Nat.zero_add,runY,hst,if_true]
     . have hst':(stp s pre.length x).2=false:=by simpa using hst
       simp(disch:=omega)only[wk,tupled,↓reduceIte,reduceEqDiff,reduceEq,reduceAdd,reduceCtorEq,E0,E4,E13,E14,hH,p1,p2,p3,hq,y1,hst',Bool.not_false]
       rw[a3]
       simp only[eachL,hx,if_false,hq,runY,hst,Bool.false_eq_true]
       exact⟨y2,by omega⟩
theorem each_px (l r:AV) (H:Heap):pcx (cbL tab) 158 [l,r] H=none:=pcx_none rfl (pc_none (fi:=c158) rfl rfl)
theorem each33 (left:Int) (sz n:Nat) (cs:List AV) (tk:Tk) (H:Heap):(cbL tab).ic 158 [.int .u64 left,.sl sz n cs tk] H=some (.ret (.fn 217 [.ptr (H.length+1) 0,.ptr H.length 0]),H++[.cells [.int .u64 left],.cells [.sl sz n cs tk]]):=by
 have:∃o H',(cbL tab).ic 158 [.int .u64 left,.sl sz n cs tk] H=some (o,H')/\o= .ret (.fn 217 [.ptr (H.length+1) 0,.ptr H.length 0])/\H'=H++[.cells [.int .u64 left],.cells [.sl sz n cs tk]]:=by
   refine ic_wp (fi:=c158) rfl rfl (by simp[c158]) (by decide) ?_
   unfold c158
   simp(disch:=omega)only[wk,tupled,↓reduceIte,reduceEqDiff,reduceEq,reduceAdd,reduceCtorEq,List.append_assoc]
 obtain⟨o,H',h,rfl,rfl⟩:=this
 exact h
theorem runY_app {α:Type} (l:List (Nat×α)) (s:List α):runY (fun(s:List α) (_:Nat) x=>(s++[x],true)) s l=s++l.map (·.2):=by
 induction l generalizing s with
 |nil=>simp[runY]
 |cons x r ih=>simp only[runY,if_true,ih,List.map_cons,List.append_assoc,List.cons_append,List.nil_append]
theorem l33:(cbL tab).lent 158=false:=rfl
def RdR (lo:AObj) (s:List (Int×Int)) (H:Heap):Prop:=∃v,H[0]? =some (.cells [v])/\Own H 2 v s.length (encs pairA s)/\(∀a b c,v≠ .sl a b c .e)/\H[3]? =some .defd/\H[4]? =some lo
theorem RdR.push {lo:AObj} {s:List (Int×Int)} {H:Heap} (h:RdR lo s H) (o:AObj):RdR lo s (H++[o]):=by
 obtain⟨v,h1,h2,h3,h4,h5⟩:=h
 have up:∀(i:Nat) (q:AObj),H[i]? =some q->(H++[o])[i]? =some q:=fun i q hq=>by rw[List.getElem?_append_left (List.getElem?_eq_some_iff.1 hq).1];exact hq
 exact⟨v,up _ _ h1,h2.kept (g:=none) (fun i q hq _=>up i q hq) (.inl rfl),h3,up _ _ h4,up _ _ h5⟩
theorem RdR.set {lo:AObj} {s:List (Int×Int)} {H:Heap} (h:RdR lo s H) {i:Nat} {o o':AObj} (hi:5<=i) (hn:∀s,o≠ .tok s) (hc:H[i]? =some o):RdR lo s (H.set i o'):=by
 obtain⟨v,h1,h2,h3,h4,h5⟩:=h
 have ne:∀j,j≠i->(H.set i o')[j]? =H[j]? :=fun j hj=>List.getElem?_set_ne (fun e=>hj e.symm)
 refine⟨v,by rw[ne _ (by omega)];exact h1,h2.kept (g:=some i) (fun j q hq hj=>by rw[ne _ (by simpa using fun e=>hj (by rw[e]))];exact hq) ?_,h3,by rw[ne _ (by omega)];exact h4,by rw[ne _ (by omega)];exact h5⟩
 right
 intro e
 rcases h2 with⟨rfl|rfl,_,_⟩|⟨_,g,rfl,hg⟩
 . cases e
 . cases e
 . cases e
   rw[hg]at hc
   cases hc
   exact hn _ rfl
def readAs:ACode:= .region [⟨some 6,.alloc [.int .u64 0,.int .u64 0],none⟩,⟨none,.store 2 (.t 6) (.t 11),none⟩]
def readBd:ACode:= .block 1 (.region [⟨some 12,.load 1 false (.t 4),none⟩,⟨some 13,.load 2 true (.t 6),none⟩,⟨some 14,.bslice 2 1 [.int .u64 0,.int .u64 0] [(0,2,.t 13)],none⟩,⟨some 15,.append 2 16 (.t 12) (.t 14),none⟩,⟨none,.store 1 (.t 4) (.t 15),none⟩])
theorem set_ne {H:Heap} {i j:Nat} {o:AObj} (h:i≠j):(H.set i o)[j]? =H[j]? :=List.getElem?_set_ne h
theorem set_eq {H:Heap} {i:Nat} {o q:AObj} (h:H[i]? =some q):(H.set i o)[i]? =some o:=by
 rw[List.getElem?_set_self (List.getElem?_eq_some_iff.1 h).1]
theorem read_ys {E:Env} {tm:List AV} (ha:Ag 17 tm E) (E4:E 4= .ptr 0 0):YS 4 5 (fun s:List (Int×Int)=>s.length) (fun _ _ _=>True) (RdR (.loop 0 .normal tm [10,11] readAs readBd)) (fun s _ x=>(s++[x],true)):=by
 refine⟨?_,fun s H o h=>h.push o,fun s H i o o' hi h hn hc=>h.set hi hn hc⟩
 intro s H j x hk hcnt hj _ hR
 refine⟨by simpa using hcnt, ?_⟩
 obtain⟨v,h1,h2,h3,h4,h5⟩:=hR
 have key:=yl_wp (tab:=tab) (P:=fun b H'=>b=true/\RdR (.loop 0 .normal tm [10,11] readAs readBd) (s++[x]) H'/\H.length<=H'.length/\∀i o,5<=i->(∀s,o≠ .tok s)->H[i]? =some o->H'[i]? =some o)
   (args:=[.int .i64 (j:Nat),.agg (pairA x)]) (readLoop_of h5) ha rfl (by decide) (by decide) (by decide) (by decide) (by decide) ?_
 . obtain⟨b,H',k1,rfl,k2⟩:=key
   exact⟨H',k1,k2⟩
 have e1:∀o:AObj,(H++[o])[H.length]? =some o:=fun o=>by simp
 unfold readAs
 simp(disch:=omega)only[wk,tupled,↓reduceIte,reduceEqDiff,reduceEq,reduceAdd,reduceCtorEq,updPs_cons,updPs_nil,e1,pairA,List.append_nil]
 have up:∀(i:Nat) (q o o':AObj),H[i]? =some q->((H++[o]).set H.length o')[i]? =some q:=fun i q o o' hq=>by
   have:=(List.getElem?_eq_some_iff.1 hq).1
   rw[set_ne (by omega),List.getElem?_append_left this]
   exact hq
 refine⟨rfl,rfl,_,_,_,_,_,readLoop_of (up _ _ _ _ h5), ?_⟩
 generalize hH1:(List.set (H++[AObj.cells [AV.int IntKind.u64 0,AV.int IntKind.u64 0]]) H.length _)=H1
 have u1:∀(i:Nat) (q:AObj),H[i]? =some q->H1[i]? =some q:=fun i q hq=>by rw[<-hH1];exact up _ _ _ _ hq
 have u2:H1[H.length]? =some (.cells (pairA x)):=by rw[<-hH1];exact set_eq (e1 _)
 have u3:H1.length=H.length+1:=by rw[<-hH1];simp
 have w1:∀o,(H1.set 4 o)[0]? =some (.cells [v]):=fun o=>by rw[set_ne (by omega)];exact u1 _ _ h1
 have w2:∀o,(H1.set 4 o)[H.length]? =some (.cells [.int .u64 x.1,.int .u64 x.2]):=fun o=>by rw[set_ne (by omega)];exact u2
 unfold readBd
 simp(disch:=omega)only[wk,tupled,↓reduceIte,reduceEqDiff,reduceEq,reduceAdd,reduceCtorEq,E4,w1,w2,List.append_nil,List.append_nil]
 generalize hlo:AObj.loop 1 _ _ _ _ _=lo
 have o2:Own (H1.set 4 lo) 2 v s.length (encs pairA s):=h2.kept (g:=some 4) (fun i q hq hi=>by rw[set_ne (by simpa using hi)];exact u1 _ _ hq) (by
   right
   intro e
   rcases h2 with⟨rfl|rfl,_,_⟩|⟨_,g,rfl,hg⟩
   . cases e
   . cases e
   . cases e
     rw[hg]at h5
     cases h5)
 obtain⟨Hb,hHb⟩:∃Hb,Hb=H1.set 4 lo:=⟨_,rfl⟩
 have w1:=w1 lo
 have w4:(H1.set 4 lo)[4]? =some lo:=set_eq (u1 _ _ h5)
 have w3:(H1.set 4 lo)[3]? =some .defd:=by rw[set_ne (by omega)];exact u1 _ _ h4
 have w5:∀i o,5<=i->H[i]? =some o->(H1.set 4 lo)[i]? =some o:=fun i o hi hc=>by rw[set_ne (by omega)];exact u1 _ _ hc
 have len1:(H1.set 4 lo).length=H.length+1:=by rw[List.length_set,u3]
 rw[<-hHb]at o2 w1 w3 w4 w5 len1 ⊢
 refine runX_app o2 (by omega) (by omega) (by omega) (by omega) rfl rfl (fun H' q1 q2 q3=> ?_)
 have q0:=q2.cells o2 rfl w1 (by intro s e;cases e)
 have q5:=q2.cells o2 rfl w4 (by intro s e;rw[<-hlo]at e;cases e)
 have q6:=q2.cells o2 rfl w3 (by intro s e;cases e)
 simp(disch:=omega)only[wk,tupled,↓reduceIte,reduceEqDiff,reduceEq,reduceAdd,reduceCtorEq,E4,q0,List.append_nil]
 have len2:H.length<H'.length:=by omega
 subst hlo
 refine⟨rfl,_,_,_,_,_,_,readLoop_of (by rw[set_ne (by omega)];exact q5),rfl,⟨_,by rw[set_ne (by omega)];exact set_eq q0, ?_,(by intro a b c e;cases e),by rw[set_ne (by omega),set_ne (by omega)];exact q6, ?_⟩,by simp;omega,fun i o hi hn hc=> ?_⟩
 . have e1:encs pairA (s++[x])=encs pairA s++[.int .u64 x.1,.int .u64 x.2]:=by rw[encs_append];rfl
   rw[e1,List.length_append]
   have k1:=q1.kept (g:=some 0) (H':=H'.set 0 (.cells [.sl 2 (s.length+1) (encs pairA s++[.int .u64 x.1,.int .u64 x.2]) (.own Hb.length)])) (fun i q hq hi=>by rw[set_ne (by simpa using hi)];exact hq) (by right;simp only[tokOf,ne_eq,Option.some.injEq];omega)
   exact k1.kept (g:=some 4) (fun i q hq hi=>by rw[set_ne (by simpa using hi)];exact hq) (by right;simp only[tokOf,ne_eq,Option.some.injEq];omega)
 . rw[set_eq (o:= .loop 0 _ _ _ _ _) (by rw[set_ne (by omega)];exact q5)];rfl
 . have hne:i≠4:=by omega
   rw[set_ne (by omega),set_ne (by omega)]
   exact q2.cells o2 rfl (w5 _ _ hi hc) hn
def readTl:ACode:= .seq (.region [⟨some 16,.load 1 false (.t 4),none⟩,⟨none,.store 1 (.t 4) (.t 16),none⟩]) .ret
theorem read_end {E:Env} {tm:List AV} (E4:E 4= .ptr 0 0) {s:List (Int×Int)} {H2:Heap} (h2:RdR (.loop 0 .normal tm [10,11] readAs readBd) s H2):
   Ret (cbL tab) none 17 (Am.Ends tab [.cell 4 1 false] fun o H=>purify (some (o,H))=some (prRow 2 pairA s)) [.blk 0,.code readTl] .normal E [.mark 3] (H2.set 4 (.loop 3 .normal tm [10,11] readAs readBd)):=by
 obtain⟨v,k1,k2,k3,k4,k5⟩:=h2
 unfold readTl
 have j1:∀o,(H2.set 4 o)[0]? =some (.cells [v]):=fun o=>by rw[set_ne (by omega)];exact k1
 have vone:v.one=true:=by rcases k2 with⟨rfl|rfl,_⟩|⟨_,g,rfl,_⟩<;>rfl
 have vflat:v.flat=[v]:=by rcases k2 with⟨rfl|rfl,_⟩|⟨_,g,rfl,_⟩<;>rfl
 have j3:((H2.set 4 (.loop 3 .normal tm [10,11] readAs readBd)).set 0 (.cells [v]))[3]? =some .defd:=by rw[set_ne (by omega),set_ne (by omega)];exact k4
 have j4:(((H2.set 4 (.loop 3 .normal tm [10,11] readAs readBd)).set 0 (.cells [v])).set 3 .dead)[0]? =some (.cells [v]):=by rw[set_ne (by omega)];exact set_eq (j1 _)
 simp(disch:=omega)only[wk,tupled,↓reduceIte,reduceEqDiff,reduceEq,reduceAdd,reduceCtorEq,E4,j1,vone,vflat,allOne,Bool.and_self,List.append_nil,ends_mark j3,j4]
 refine purify_row (fun _=>rfl) ?_ (fun _ s n c=>k3 s n c)
 exact((k2.set k5 (by intro s e;cases e)).set (j1 _) (by intro s e;cases e)).set j3 (by intro s e;cases e)
theorem slotsread (left:Int) (ps:List (Int×Int)) (rest:List AV) (tk:Tk) (hc:hfL rest=true) (hr:right left (2*ps.length)):
   (cbL tab).pc 97 [.int .u64 left,row ps rest tk]=some (prRow 2 pairA (rdL left ps)):=by
 obtain⟨u1,e1,f1⟩:=lend_sl 1 (2*ps.length) (encs pairA ps++rest) tk
 refine pc_wp (fi:=c97) rfl ?_ (by simp[c97]) (by decide) ?_
 . simp only[pcOn,List.map_cons,List.map_nil,hfL,hf_lend_sl,hf_lend_int,hf_lend_bool,hf_lend_str,hfL_append,Bool.and_self,Bool.and_true,Bool.true_and,c97,hc,row,hf_pairA]
 unfold c97
 rw[List.map_cons,List.map_cons,List.map_nil,row,e1,lend_int]
 have a1:=fun H=>each_px (.int .u64 left) (.sl 1 (2*ps.length) (encs pairA ps++rest) u1) H
 have a2:=fun H=>each33 left 1 (2*ps.length) (encs pairA ps++rest) u1 H
 simp(disch:=omega)only[wk,tupled,↓reduceIte,reduceEqDiff,reduceEq,reduceAdd,reduceCtorEq,a1,a2,runE_none l33]
 refine ret_range (f:=217) (caps:=[.ptr 2 0,.ptr 1 0]) (by simp only[en,↓reduceIte,reduceEqDiff,evE_t]) (fun tm ha=> ?_)
 obtain⟨o,H2,h1,rfl,h2,h3⟩:=each_ic (a:=2) (b:=1) (read_ys ha (by simp only[en,↓reduceIte,reduceEqDiff])) (s0:=[]) (H:=[.cells [.sl 0 0 [] .z],.cells [.int .u64 left],.cells [row ps rest u1],.defd,.loop 0 .normal tm [10,11] readAs readBd]) (Nat.le_refl _) ⟨_,rfl,.inl ⟨.inl rfl,rfl,rfl⟩,(by intro a b c e;cases e),rfl,rfl⟩ rfl rfl hc f1 hr rfl (okRun_any _ _ _)
 rw[runY_app,List.nil_append,eachL_snd]at h2
 exact⟨_,H2,_,_,_,_,_,_,h1,readLoop_of h2.choose_spec.2.2.2.2,by decide,rfl,read_end (by simp only[en,↓reduceIte,reduceEqDiff]) h2⟩
theorem rising_px (l:List (Int×Int)) (sz:Nat) (tk:Tk) (H:Heap) (hn:l.length<=1000) (hz:l≠[]->sz=2):
   pcx (cbL tab) 267 [.sl sz l.length (encs pairA l) tk,.fn 268 []] H=some (.plain (.bool (decide (risingL l)))):=by
 obtain⟨u1,e1,f1⟩:=lend_sl sz l.length (encs pairA l) tk
 refine pcx_N rfl (pc_wp (fi:=c267) rfl ?_ (by simp[c267]) (by decide) ?_)
 . simp only[pcOn,List.map_cons,List.map_nil,hfL,hf_lend_sl,hf_lend_int,hf_lend_bool,hf_lend_str,hfL_append,Bool.and_self,Bool.and_true,Bool.true_and,c267,hf_pairA];rfl
 unfold c267
 rw[List.map_cons,List.map_cons,List.map_nil,e1]
 have el:lend (.fn 268 [])= .fn 268 []:=rfl
 rw[el]
 simp(disch:=omega)only[wk,tupled,↓reduceIte,reduceEqDiff,reduceEq,reduceAdd,reduceCtorEq]
 cases l with
 | nil=>
   rw[ret_loop]
   have:risingL []:=trivial
   simp(disch:=omega)only[wk,tupled,↓reduceIte,reduceEqDiff,reduceEq,reduceAdd,reduceCtorEq,purify,unownT,lend,unown,AV.hf,this]
 |cons x0 r0=>
 obtain rfl:=hz (by simp)
 refine loop_ind (fun(x:List (Int×Int)×(Int×Int)×List (Int×Int)) E df H=>x0::r0=x.1++x.2.1::x.2.2/\(risingL (x0::r0)↔risingL (x.2.1::x.2.2))/\E 0= .sl 2 (x0::r0).length (encs pairA (x0::r0)) u1/\E 1= .fn 268 []/\E 5= .int .i64 ((x.1.length:Nat)+1)/\df=[]/\H=[])
   (fun x=>x.2.2.length) ([],x0,r0) (by decide) (.inl rfl) ⟨rfl,Iff.rfl,rfl,rfl,rfl,rfl,rfl⟩ ?_
 intro ⟨pre,x,suf⟩ E df H ih hP
 obtain⟨a1,a2,E0,E1,E5,hdf,hH⟩:=hP
 dsimp only at a1 a2 E5
 subst hdf hH
 rw[a1]at hn a2 E0 ih
 rw[a1]
 simp only[List.length_append,List.length_cons]at hn
 cases suf with
 | nil=>
   have:risingL (pre++[x]):=a2.2 trivial
   simp(disch:=omega)only[wk,tupled,↓reduceIte,reduceEqDiff,reduceEq,reduceAdd,reduceCtorEq,E0,E1,E5,purify,unownT,lend,unown,AV.hf,this]
 | cons y r=>
   simp only[List.length_cons]at hn
   have i1:(pre.length:Int)+1-1=pre.length:=by omega
   have d2:List.drop (((pre.length:Int)+1).toNat*2) (encs pairA (pre++x::y::r))=pairA y++encs pairA r:=by
     have:=drop_pre (f:=pairA) (pre++[x]) (y::r)
     have e:(pre++[x]).length*2=((pre.length:Int)+1).toNat*2:=by simp
     rw[e,encs_cons,List.append_assoc]at this
     exact this
   have p1:=fun H=>less_px x y H
   simp only[pairA]at p1 d2
   by_cases hx:x.1<y.1
   . simp(disch:=omega)only[wk,tupled,↓reduceIte,reduceEqDiff,reduceEq,reduceAdd,reduceCtorEq,E0,E1,E5,i1,d2,pairA,p1,hx]
     refine ih (pre++[x],y,r) _ _ _ (by simp) ?_
     exact⟨by simp,by rw[a2];simp[risingL,hx],by simp only[en,↓reduceIte,reduceEqDiff,E0],by simp only[en,↓reduceIte,reduceEqDiff,E1],by simp only[en,↓reduceIte,reduceEqDiff],rfl,rfl⟩
   . have:¬risingL (pre++x::y::r):=by rw[a2];simp[risingL,hx]
     simp(disch:=omega)only[wk,tupled,↓reduceIte,reduceEqDiff,reduceEq,reduceAdd,reduceCtorEq,E0,E1,E5,i1,d2,pairA,p1,hx,purify,unownT,lend,unown,AV.hf,this]
def seenE (seen:List Int):List (AV×AV):=seen.map fun k=>(.int .u64 k,.int .i64 1)
theorem findA_seen (k:Int):∀(seen:List Int) (i:Nat),k∉seen->findA 0 (.int .u64 k) (seenE seen) i=some none
 |[],_,_=>rfl
 | x::r,i,h=>by
   simp only[List.mem_cons,not_or]at h
   have hb:(k==x)=false:=by simp[h.1]
   simp only[seenE,List.map_cons,findA,cellEq,if_true,hb]
   exact findA_seen k r (i+1) h.2
theorem findA_seen_in (k:Int):∀(seen:List Int) (i:Nat),k∈seen->∃j,findA 0 (.int .u64 k) (seenE seen) i=some (some (j,.int .i64 1))
 |[],_,h=>by simp at h
 | x::r,i,h=>by
   by_cases hx:k=x
   . subst hx
     exact⟨i,by simp[seenE,findA,cellEq]⟩
   . have hb:(k==x)=false:=by simp[hx]
     simp only[List.mem_cons,hx,false_or]at h
     obtain⟨j,hj⟩:=findA_seen_in k r (i+1) h
     refine⟨j, ?_⟩
     simp only[seenE,List.map_cons,findA,cellEq,if_true,hb]
     exact hj
theorem must_t (e:Int) (H:Heap):pcx (cbL tab) 198 [.bool true,.int .i64 e] H=some (.plain (.tup [])):=by rw[must_px,if_pos rfl]
theorem must_f (e:Int) (H:Heap):pcx (cbL tab) 198 [.bool false,.int .i64 e] H=some (.pan [(.iface 37 (.int .i64 e),false)]):=by rw[must_px,if_neg (by simp)]
theorem purify_pan {c:List (AV×Bool)} {H:Heap} (h:hfL (c.map (·.1))=true):purify (some (.pan c,H))=some (.pan c):=by
 simp only[purify,h,if_true]
theorem scal_pairA (l:List (Int×Int)):(encs pairA l).all (·.scal)=true:=by
 induction l with
 |nil=>rfl
 |cons x r ih=>rw[encs_cons,List.all_append,ih];rfl
theorem settled_yes (ps:List (Int×Int)) (rest:List AV) (tk:Tk) (left:Int) (H:Heap) (hc:hfL rest=true) (ht:tk.hf=true) (hr:right left (2*ps.length)):
   pcx (cbL tab) 206 [rowV (2*ps.length) (encs pairA ps++rest) tk left] H=if okL left ps then some (prRow 2 pairA (rdL left ps))else some (.pan [(.iface 37 (.int .i64 190),false)]):=by
 obtain⟨u1,e1,f1⟩:=lend_rowV (2*ps.length) (encs pairA ps++rest) tk left
 have hcs:hfL (encs pairA ps++rest)=true:=by rw[hfL_append,hf_pairA,hc];rfl
 have hn:=hr.2.2.2
 have hlen:=rdL_le left ps
 have hraw:=rawL_le ps
 have main:(cbL tab).pc 206 [rowV (2*ps.length) (encs pairA ps++rest) tk left]=some (if okL left ps then(prRow 2 pairA (rdL left ps))else(.pan [(.iface 37 (.int .i64 190),false)])):=by
   refine pc_wp (fi:=c206) rfl ?_ (by simp[c206]) (by decide) ?_
   . simp only[pcOn,List.map_cons,List.map_nil,hfL,hf_lend_sl,hf_lend_int,hf_lend_bool,hf_lend_str,hfL_append,Bool.and_self,Bool.and_true,Bool.true_and,c206,hf_rowV,hf_lend_rowV,hcs,hc,hf_pairA,ht]
   unfold c206
   rw[List.map_cons,List.map_nil,e1,rowV]
   have r1:=fun H=>slotsright_px left (2*ps.length) (encs pairA ps++rest) u1 H (by omega) hcs f1
   have rd:=fun H=>pcx_N (H:=H) rfl (slotsread left ps rest u1 hc hr)
   have rw1:=fun H=>slotsraw_px left ps rest u1 H (by omega) hc f1
   have mn:=fun H=>many_px (2*ps.length) (encs pairA ps++rest) u1 H (by omega) hcs f1
   simp only[rowV,row]at r1 rd rw1
   simp(disch:=omega)only[wk,tupled,↓reduceIte,reduceEqDiff,reduceEq,reduceAdd,reduceCtorEq,r1,hr,must_t,rd]
   refine runE_row (fun s tk' H1 hz ho htk hup hle=> ?_)
   have h0:=hup 0 _ rfl
   have hri:=fun H=>rising_px (rdL left ps) s tk' H (by omega) hz
   by_cases hris:risingL (rdL left ps)
   case neg=>
     have:¬okL left ps:=fun h=>hris h.1
     simp(disch:=omega)only[wk,tupled,↓reduceIte,reduceEqDiff,reduceEq,reduceAdd,reduceCtorEq,hri,hris,must_f,this]
     exact purify_pan rfl
   have e1:∀o:AObj,(H1++[o])[H1.length]? =some o:=fun o=>by simp
   have e0:∀o:AObj,(H1++[o])[0]? =H1[0]? :=fun o=>List.getElem?_append_left (by have:=(List.getElem?_eq_some_iff.1 h0).1;exact this)
   simp(disch:=omega)only[wk,tupled,↓reduceIte,reduceEqDiff,reduceEq,reduceAdd,reduceCtorEq,hri,hris,must_t,e0,h0,e1,cellEq,findA,beq_self_eq_true]
   have e2:∀o o':AObj,((H1++[o]).set H1.length o')[H1.length]? =some o':=fun o o'=>by simp
   have e3:∀o o':AObj,((H1++[o]).set H1.length o')[0]? =H1[0]? :=fun o o'=>by
     rw[set_ne (by have:=(List.getElem?_eq_some_iff.1 h0).1;omega),e0]
   refine loop_ind (fun(x:List (Int×Int)×List (Int×Int)) E df H2=>rdL left ps=x.1++x.2/\(distL [left] (rdL left ps)↔distL (left::x.1.map (·.2)) x.2)/\E 1= .ptr 0 0/\E 3= .sl s (rdL left ps).length (encs pairA (rdL left ps)) tk'/\E 4= .mp H1.length∧
       E 23= .sl s (rdL left ps).length (encs pairA (rdL left ps)) tk'/\E 24= .int .i64 ((rdL left ps).length:Nat)/\E 25= .int .i64 (x.1.length:Nat)/\df=[]/\H2[0]? =H1[0]? /\H2[H1.length]? =some (.map (seenE (left::x.1.map (·.2))))∧
       Own H2 2 (.sl s (rdL left ps).length (encs pairA (rdL left ps)) tk') (rdL left ps).length (encs pairA (rdL left ps))/\H1.length<H2.length)
     (fun x=>x.2.length) ([],rdL left ps) (by decide) (.inl rfl) ⟨rfl,Iff.rfl,by simp only[en,↓reduceIte,reduceEqDiff],by simp only[en,↓reduceIte,reduceEqDiff],by simp only[en,↓reduceIte,reduceEqDiff],by simp only[en,↓reduceIte,reduceEqDiff],by simp only[en,↓reduceIte,reduceEqDiff],rfl,rfl,e3 _ _,e2 _ _, ?_,by simp⟩ ?_
   . exact(ho.kept (g:=none) (fun i q hq _=>by rw[List.getElem?_append_left (List.getElem?_eq_some_iff.1 hq).1];exact hq) (.inl rfl)).set (e1 _) (by intro s e;cases e)
   intro ⟨pre,suf⟩ E df H2 ih hP
   obtain⟨a1,a2,E1,E3,E4,E23,E24,E25,hdf,hH0,hHm,ho2,hl2⟩:=hP
   dsimp only at a1 a2 E25 hHm
   subst hdf
   rw[h0]at hH0
   have hl0:(rdL left ps).length=pre.length+suf.length:=by rw[a1,List.length_append]
   cases suf with
   | nil=>
     have hd:distL [left] (rdL left ps):=a2.2 trivial
     simp only[List.length_nil]at hl0
     by_cases hlr:(rdL left ps).length=rawL ps
     case neg=>
       have:¬okL left ps:=fun h=>hlr h.2.2.1
       have hlr':¬((rdL left ps).length:Int)=(rawL ps:Nat):=by omega
       simp(disch:=omega)only[wk,tupled,↓reduceIte,reduceEqDiff,reduceEq,reduceAdd,reduceCtorEq,E1,E3,E4,E23,E24,E25,hH0,rw1,hlr',must_f,this]
       exact purify_pan rfl
     by_cases hlm:(rdL left ps).length<ps.length
     case neg=>
       have:¬okL left ps:=fun h=>hlm h.2.2.2.1
       have hlm':¬(rawL ps:Int)<(2*ps.length:Nat)/2:=by omega
       simp(disch:=omega)only[wk,tupled,↓reduceIte,reduceEqDiff,reduceEq,reduceAdd,reduceCtorEq,E1,E3,E4,E23,E24,E25,hH0,rw1,mn,hlr,hlm',must_f,this]
       exact purify_pan rfl
     have hlm':(rawL ps:Int)<(2*ps.length:Nat)/2:=by omega
     simp(disch:=omega)only[wk,tupled,↓reduceIte,reduceEqDiff,reduceEq,reduceAdd,reduceCtorEq,E1,E3,E4,E23,E24,E25,hH0,rw1,mn,hlr,hlm',must_t]
     have hup:(rawL ps:Int)=(ps.take (rawL ps)).length:=by rw[List.length_take];omega
     refine loop_ind (fun(x:List (Int×Int)×List (Int×Int)) E df H3=>ps=x.1++x.2/\(zeroL (ps.drop (rawL ps))↔zeroL x.2)/\E 1= .ptr 0 0/\E 3= .sl s (rdL left ps).length (encs pairA (rdL left ps)) tk'/\E 7= .int .i64 (x.1.length:Nat)/\df=[]/\H3=H2)
       (fun x=>x.2.length) (ps.take (rawL ps),ps.drop (rawL ps)) (by decide) (.inl rfl) ⟨by simp,Iff.rfl,by simp only[en,↓reduceIte,reduceEqDiff,E1],by simp only[en,↓reduceIte,reduceEqDiff,E3],by simp only[en,↓reduceIte,reduceEqDiff,hup],rfl,rfl⟩ ?_
     intro ⟨pre2,suf2⟩ E df H3 ih hP
     obtain⟨b1,b2,E1,E3,E7,hdf,hH⟩:=hP
     dsimp only at b1 b2 E7
     subst hdf hH
     have hl3:ps.length=pre2.length+suf2.length:=by rw[b1,List.length_append]
     cases suf2 with
     | nil=>
       simp only[List.length_nil]at hl3
       have hok:okL left ps:=⟨hris,hd,hlr,hlm,by rw[hlr];exact b2.2 (fun x hx=>by simp at hx)⟩
       simp(disch:=omega)only[wk,tupled,↓reduceIte,reduceEqDiff,reduceEq,reduceAdd,reduceCtorEq,E1,E3,E7,hH0,mn,hok]
       exact purify_row (fun _=>rfl) ho2 (fun hl s' n' c' e=>by cases e;exact htk rfl)
     | cons x r=>
       simp only[List.length_cons]at hl3
       have p1:=fun H=>ptr_px pre2 x r rest u1 H (by rw[<-b1];omega) hc f1
       rw[<-b1]at p1
       simp only[row]at p1
       by_cases hx:x.2=0
       . simp(disch:=omega)only[wk,tupled,↓reduceIte,reduceEqDiff,reduceEq,reduceAdd,reduceCtorEq,E1,E3,E7,hH0,mn,p1,hx,must_t]
         refine ih (pre2++[x],r) _ _ _ (by simp) ?_
         exact⟨by simp[b1],by rw[b2];simp[zeroL,hx],by simp only[en,↓reduceIte,reduceEqDiff,E1],by simp only[en,↓reduceIte,reduceEqDiff,E3],by simp only[en,↓reduceIte,reduceEqDiff],rfl,rfl⟩
       . have hno:¬okL left ps:=fun h=>by
           have:=b2.1 (by rw[<-hlr];exact h.2.2.2.2)
           exact hx (this x (List.mem_cons_self ..))
         simp(disch:=omega)only[wk,tupled,↓reduceIte,reduceEqDiff,reduceEq,reduceAdd,reduceCtorEq,E1,E3,E7,hH0,mn,p1,hx,must_f,hno]
         exact purify_pan rfl
   | cons x r=>
     simp only[List.length_cons]at hl0
     obtain rfl:=hz (by rw[a1];simp)
     have f1:∀o:AObj,(H2++[o])[H2.length]? =some o:=fun o=>by simp
     have f2:∀o o':AObj,((H2++[o]).set H2.length o')[H2.length]? =some o':=fun o o'=>by simp
     have f3:∀o o':AObj,((H2++[o]).set H2.length o')[H1.length]? =H2[H1.length]? :=fun o o'=>by
       rw[set_ne (by omega),List.getElem?_append_left hl2]
     have dd:List.drop (pre.length*2) (encs pairA (rdL left ps))=pairA x++encs pairA r:=by rw[a1,drop_pre,encs_cons]
     simp only[pairA]at dd
     by_cases hin:x.2∈left::pre.map (·.2)
     . have:¬okL left ps:=fun h=>by
         have:=a2.1 h.2.1
         exact this.1 hin
       obtain⟨j,hj⟩:=findA_seen_in x.2 _ 0 hin
       simp(disch:=omega)only[wk,tupled,↓reduceIte,reduceEqDiff,reduceEq,reduceAdd,reduceCtorEq,E1,E3,E4,E23,E24,E25,dd,f1,f2,f3,hHm,hj,cellEq,must_f,this]
       exact purify_pan rfl
     . have hj:=findA_seen x.2 _ 0 hin
       simp(disch:=omega)only[wk,tupled,↓reduceIte,reduceEqDiff,reduceEq,reduceAdd,reduceCtorEq,E1,E3,E4,E23,E24,E25,dd,f1,f2,f3,hHm,hj,cellEq,must_t]
       refine ih (pre++[x],r) _ _ _ (by simp) ?_
       have g1:∀(o o':AObj),((H2++[o]).set H2.length o')[0]? =H2[0]? :=fun o o'=>by
         rw[set_ne (by omega),List.getElem?_append_left (by omega)]
       have hm2:=fun(o o':AObj)=>f3 o o'
       rw[hHm]at hm2
       refine⟨by simp[a1], ?_,by simp only[en,↓reduceIte,reduceEqDiff,E1],by simp only[en,↓reduceIte,reduceEqDiff,E3],by simp only[en,↓reduceIte,reduceEqDiff,E4],by simp only[en,↓reduceIte,reduceEqDiff,E23],by simp only[en,↓reduceIte,reduceEqDiff,E24],by simp only[en,↓reduceIte,reduceEqDiff],rfl, ?_, ?_, ?_, ?_⟩
       . rw[a2];simp only[distL,hin,not_false_eq_true,true_and,List.map_append,List.map_cons,List.map_nil,List.cons_append]
       . rw[set_ne (by have:=(List.getElem?_eq_some_iff.1 h0).1;omega),g1,hH0,h0]
       . rw[set_eq (hm2 _ _)]
         simp[seenE]
       . have b1:=(ho2.kept (g:=none) (H':=H2++[AObj.cells [.int .u64 0,.int .u64 0]]) (fun i q hq _=>by rw[List.getElem?_append_left (List.getElem?_eq_some_iff.1 hq).1];exact hq) (.inl rfl)).set (q:= .cells [.int .u64 x.1,.int .u64 x.2]) (f1 _) (by intro s e;cases e)
         exact b1.set (hm2 _ _) (by intro s e;cases e)
       . simp;omega
 split at main
 . rename_i h
   rw[if_pos h]
   exact pcx_Lrow (H:=H) rfl (by rw[List.map_cons,List.map_nil,lendK_rowV]) main (scal_pairA _)
 . rename_i h
   rw[if_neg h]
   exact pcx_Lp (H:=H) rfl (by rw[List.map_cons,List.map_nil,lendK_rowV]) main rfl
theorem caught_ret (a:Nat) (f:FuncId) (caps:List AV) (H:Heap):leaveA tab (cbL tab) [.call 195 [.ptr a 0,.fn f caps]] .returning H=some (.returning,H):=by
 rfl
theorem caught_pan (a:Nat) (f:FuncId) (caps:List AV) (H H1:Heap) (e:Int) (y v:AV) (h:enterA (cbL tab) f caps H=some (.ret v,H1)) (hy:H1[a]? =some (.cells [y])):
   leaveA tab (cbL tab) [.call 195 [.ptr a 0,.fn f caps]] (.panicking [(.iface 37 (.int .i64 e),false)]) H=some (.returning,H1.set a (.cells [.int .i64 e])):=by
 have ht:tab 195=some c195:=rfl
 simp[leaveA,ht,bodyD,c195,acodeD,aregionD,hasRecov,acode,aregion,aval,aact,putD,X.ev,fr0,wantedA,binV,eqV,unV,h,hy,AV.flat,allOne,AV.one,resA,settleA,isNili]
theorem nothing66 (H:Heap):enterA (cbL tab) 222 [] H=some (.ret (.tup []),H):=by
 have:pcx (cbL tab) 222 [] H=some (.plain (.tup [])):=by
   refine pcx_N rfl (pc_wp (fi:=c222) rfl rfl (by simp[c222]) (by decide) ?_)
   unfold c222
   simp(disch:=omega)only[wk,tupled,↓reduceIte,reduceEqDiff,reduceEq,reduceAdd,reduceCtorEq,purify,unownT,lend,unown,AV.hf,hfL]
 rw[enterA_pr this]
 rfl
theorem chk_pan {E:Env} {H:Heap} {e:Int} {y:AV} (E4:E 4= .ptr 0 0) (h1:H[0]? =some (.cells [y])):
   Am.Ends tab [.cell 4 1 false] (fun o H=>purify (some (o,H))=some (.plain (.int .i64 e))) (.panic [(.iface 37 (.int .i64 e),false)]) E [.call 195 [.ptr 0 0,.fn 222 []]] H:=by
 rw[ends_left_pan (caught_pan 0 _ _ H _ e y _ (nothing66 H) h1)]
 have h5:(H.set 0 (.cells [.int .i64 e]))[0]? =some (.cells [.int .i64 e]):=set_eq h1
 simp(disch:=omega)only[wk,tupled,↓reduceIte,reduceEqDiff,reduceEq,reduceAdd,reduceCtorEq,E4,h5,purify,unownT,lend,unown,AV.hf]
theorem slotscheck_yes (left:Int) (ps:List (Int×Int)) (rest:List AV) (tk:Tk) (H:Heap) (hc:hfL rest=true) (hr:right left (2*ps.length)):
   pcx (cbL tab) 159 [.int .u64 left,row ps rest tk] H=some (.plain (.int .i64 (if okL left ps then 0 else 190))):=by
 obtain⟨u1,e1,f1⟩:=lend_sl 1 (2*ps.length) (encs pairA ps++rest) tk
 refine pcx_N rfl (pc_wp (fi:=c159) rfl ?_ (by simp[c159]) (by decide) ?_)
 . simp only[pcOn,List.map_cons,List.map_nil,hfL,hf_lend_sl,hf_lend_int,hf_lend_bool,hf_lend_str,hfL_append,Bool.and_self,Bool.and_true,Bool.true_and,c159,row,hc,hf_pairA]
 unfold c159
 rw[List.map_cons,List.map_cons,List.map_nil,row,e1,lend_int]
 have r1:=fun H=>settled_yes ps rest u1 left H hc f1 hr
 simp only[rowV]at r1
 by_cases h1:okL left ps
 case neg=>
   simp only[h1,if_false]at r1 ⊢
   simp(disch:=omega)only[wk,tupled,↓reduceIte,reduceEqDiff,reduceEq,reduceAdd,reduceCtorEq,r1,List.append_nil]
   refine chk_pan (e:=190) (y:= .int .i64 0) ?_ ?_ <;>first|rfl|simp only[en,↓reduceIte,reduceEqDiff]
 simp only[h1,if_true]at r1 ⊢
 simp(disch:=omega)only[wk,tupled,↓reduceIte,reduceEqDiff,reduceEq,reduceAdd,reduceCtorEq,r1,List.append_nil]
 refine runE_row (fun s tk' H1 hz ho htk hup hle=> ?_)
 have g0:=hup 0 _ rfl
 have g1:(H1.set 0 (.cells [.int .i64 0]))[0]? =some (.cells [.int .i64 0]):=set_eq g0
 simp(disch:=omega)only[wk,tupled,↓reduceIte,reduceEqDiff,reduceEq,reduceAdd,reduceCtorEq,g0,List.append_nil]
 rw[ends_left_ret (caught_ret _ _ _ _)]
 simp(disch:=omega)only[wk,tupled,↓reduceIte,reduceEqDiff,reduceEq,reduceAdd,reduceCtorEq,g1,purify,unownT,lend,unown,AV.hf]
end Go.Proofs.YtogbblcnfcfflaaGreat
namespace Go.Proofs.YtogbblcnfcfflaaGreat
open Go Go.Am Go.Rec
def panJ (e:Int):PR:= .pan [(.iface 37 (.int .i64 e),false)]
theorem pcx_L5 {cb:CB} {H:Heap} {f:FuncId} {args args':List AV} {v:AV} (hl:cb.lent f=true) (hid:args.map (lendK H 4)=args') (h:cb.pc f args'=some (.fval v)):pcx cb f args H=some (.plain v):=by
 unfold pcx
 rw[if_pos hl,enterL,hid,h]
theorem newC_own {α:Type} {sz:Nat} {f:α->List AV} {l:List α} {H:Heap} {v:AV} (h:Own H sz v l.length (encs f l)) (hs:(encs f l).all (·.scal)=true) (hne:∀s n c,v≠ .sl s n c .e):newC H v=some (slvR sz f l):=by
 rcases h with⟨rfl|rfl,h1,h2⟩|⟨h0,g,rfl,hg⟩
 . have:l=[]:=List.eq_nil_of_length_eq_zero h1
   subst this
   rfl
 . exact absurd rfl (hne _ _ _)
 . have:l.isEmpty=false:=by cases l with|nil=>exact absurd rfl h0|cons _ _=>rfl
   simp only[newC,hg,slvR,this,true_and,hs,if_true,Bool.false_eq_true,if_false]
theorem rmust_t (e:Int) (H:Heap):pcx (cbL tab) 30 [.bool true,.int .i64 e] H=some (.plain (.tup [])):=by
 refine pcx_N rfl (pc_wp (fi:=c30) rfl rfl (by simp[c30]) (by decide) ?_)
 unfold c30
 have lb:lend (.bool true)= .bool true:=rfl
 rw[List.map_cons,List.map_cons,List.map_nil,lb,lend_int]
 simp(disch:=omega)only[wk,tupled,↓reduceIte,reduceEqDiff,reduceEq,reduceAdd,reduceCtorEq,purify,unownT,lend,unown,AV.hf,hfL]
theorem rmust_f (e:Int) (H:Heap):pcx (cbL tab) 30 [.bool false,.int .i64 e] H=some (panJ e):=by
 refine pcx_N rfl (pc_wp (fi:=c30) rfl rfl (by simp[c30]) (by decide) ?_)
 unfold c30 panJ
 have lb:lend (.bool false)= .bool false:=rfl
 rw[List.map_cons,List.map_cons,List.map_nil,lb,lend_int]
 simp(disch:=omega)only[wk,tupled,↓reduceIte,reduceEqDiff,reduceEq,reduceAdd,reduceCtorEq,purify,unownT,lend,unown,AV.hf,hfL]
theorem rcaught_ret (a:Nat) (f:FuncId) (caps:List AV) (H:Heap):leaveA tab (cbL tab) [.call 28 [.ptr a 0,.fn f caps]] .returning H=some (.returning,H):=by
 rfl
theorem rcaught_pan (a:Nat) (f:FuncId) (caps:List AV) (H H1:Heap) (e:Int) (y v:AV) (h:enterA (cbL tab) f caps H=some (.ret v,H1)) (hy:H1[a]? =some (.cells [y])):
   leaveA tab (cbL tab) [.call 28 [.ptr a 0,.fn f caps]] (.panicking [(.iface 37 (.int .i64 e),false)]) H=some (.returning,H1.set a (.cells [.int .i64 e])):=by
 have ht:tab 28=some c28:=rfl
 simp[leaveA,ht,bodyD,c28,acodeD,aregionD,hasRecov,acode,aregion,aval,aact,putD,X.ev,fr0,wantedA,binV,eqV,unV,h,hy,AV.flat,allOne,AV.one,resA,settleA,isNili]
end Go.Proofs.YtogbblcnfcfflaaGreat
namespace Go.Proofs.YtogbblcnfcfflaaGreat
open Go Go.Am Go.Slots Go.Nod Go.Rec
theorem runG_un {cb:CB} {rd:Option Nat} {n:Nat} {Q:KP} {ks:List Kt} {E:Env} {df:List ADf} {H:Heap} {b:Bool} {d:Option Nat} {op:AOp} {rest:List AOper}:RunG (.tup []) b d op rest cb rd n Q ks E df H=RR cb rd n Q rest ks (updD E d (.tup [])) df H:=(rfl)
theorem block_px (p:Int) (H:Heap):pcx (cbL tab) 152 [.int .u64 p] H=some (.plain (.bool (decide (blockI p)))):=by
 refine pcx_N rfl (pc_wp (fi:=c152) rfl rfl (by simp[c152]) (by decide) ?_)
 unfold c152
 by_cases h1:1<=p
 . by_cases h2:p<2048
   . have h:blockI p:=⟨h1,by omega⟩
     simp(disch:=omega)only[wk,tupled,↓reduceIte,reduceEqDiff,reduceEq,reduceAdd,reduceCtorEq,lend,unown,h1,h2,h,purify,unownT,lend,unown,AV.hf]
   . have h:¬blockI p:=fun h=>h2 (by have:=h.2;omega)
     simp(disch:=omega)only[wk,tupled,↓reduceIte,reduceEqDiff,reduceEq,reduceAdd,reduceCtorEq,lend,unown,h1,h2,h,purify,unownT,lend,unown,AV.hf]
 . have h:¬blockI p:=fun h=>h1 h.1
   simp(disch:=omega)only[wk,tupled,↓reduceIte,reduceEqDiff,reduceEq,reduceAdd,reduceCtorEq,lend,unown,h1,h,purify,unownT,lend,unown,AV.hf]
theorem in_96 {args:List AV} {H:Heap} {a o:Nat}:pcx (cbL tab) 142 (.ptr a o::args) H=none:=pcx_none rfl (pc_none (fi:=c142) rfl rfl)
theorem in_97 {args:List AV} {H:Heap} {a o:Nat}:pcx (cbL tab) 143 (.ptr a o::args) H=none:=pcx_none rfl (pc_none (fi:=c143) rfl rfl)
theorem in_99 {args:List AV} {H:Heap} {a o:Nat}:pcx (cbL tab) 145 (.ptr a o::args) H=none:=pcx_none rfl (pc_none (fi:=c145) rfl rfl)
theorem in_100 {args:List AV} {H:Heap} {a o:Nat}:pcx (cbL tab) 146 (.ptr a o::args) H=none:=pcx_none rfl (pc_none (fi:=c146) rfl rfl)
theorem in_102 {args:List AV} {H:Heap} {a o:Nat}:pcx (cbL tab) 148 (.ptr a o::args) H=none:=pcx_none rfl (pc_none (fi:=c148) rfl rfl)
theorem in_103 {args:List AV} {H:Heap} {a o:Nat}:pcx (cbL tab) 149 (.ptr a o::args) H=none:=pcx_none rfl (pc_none (fi:=c149) rfl rfl)
theorem in_105 {args:List AV} {H:Heap} {a o:Nat}:pcx (cbL tab) 151 (.ptr a o::args) H=none:=pcx_none rfl (pc_none (fi:=c151) rfl rfl)
theorem in_107 {args:List AV} {H:Heap} {a o:Nat}:pcx (cbL tab) 153 (.ptr a o::args) H=none:=pcx_none rfl (pc_none (fi:=c153) rfl rfl)
theorem in_109 {args:List AV} {H:Heap} {a o:Nat}:pcx (cbL tab) 155 (.ptr a o::args) H=none:=pcx_none rfl (pc_none (fi:=c155) rfl rfl)
theorem in_110 {args:List AV} {H:Heap} {a o:Nat}:pcx (cbL tab) 156 (.ptr a o::args) H=none:=pcx_none rfl (pc_none (fi:=c156) rfl rfl)
theorem ll_96:(cbL tab).lent 142=false:=rfl
theorem ll_97:(cbL tab).lent 143=false:=rfl
theorem ll_99:(cbL tab).lent 145=false:=rfl
theorem ll_100:(cbL tab).lent 146=false:=rfl
theorem ll_102:(cbL tab).lent 148=false:=rfl
theorem ll_103:(cbL tab).lent 149=false:=rfl
theorem ll_105:(cbL tab).lent 151=false:=rfl
theorem ll_107:(cbL tab).lent 153=false:=rfl
theorem ll_109:(cbL tab).lent 155=false:=rfl
theorem ll_110:(cbL tab).lent 156=false:=rfl
theorem ic_val {f:FuncId} {args:List AV} {H H1:Heap} {v:AV} (h:∃o H',(cbL tab).ic f args H=some (o,H')/\o= .ret v/\H'=H1):(cbL tab).ic f args H=some (.ret v,H1):=by
 obtain⟨o,H',h1,rfl,rfl⟩:=h
 exact h1
theorem mark_ic (p:AV) (w:Int) (H:Heap) (hp:pcOn c142 [p,.int .u64 w]=false):(cbL tab).ic 142 [p,.int .u64 w] H=some (.ret (.bool (decide (nmark<=w/\w<=nmark+12))),H):=by
 refine ic_val (ic_wp (fi:=c142) rfl hp (by simp[c142]) (by decide) ?_)
 unfold c142
 have e:nmark=7522529147838689024:=rfl
 rw[e]
 by_cases h1:(7522529147838689024:Int)<=w
 . by_cases h2:w<=7522529147838689036
   . simp(disch:=omega)only[wk,tupled,↓reduceIte,reduceEqDiff,reduceEq,reduceAdd,reduceCtorEq,h1,h2,Int.reduceAdd]
   . simp(disch:=omega)only[wk,tupled,↓reduceIte,reduceEqDiff,reduceEq,reduceAdd,reduceCtorEq,h1,h2,and_false,Int.reduceAdd]
 . simp(disch:=omega)only[wk,tupled,↓reduceIte,reduceEqDiff,reduceEq,reduceAdd,reduceCtorEq,h1,false_and]
theorem sib_ic (p:AV) (w:Int) (H:Heap) (hp:pcOn c145 [p,.int .u64 w]=false):(cbL tab).ic 145 [p,.int .u64 w] H=some (.ret (.bool (decide (w<=2047))),H):=by
 refine ic_val (ic_wp (fi:=c145) rfl hp (by simp[c145]) (by decide) ?_)
 unfold c145
 by_cases h1:w<=2047
 . have h2:w<2048:=by omega
   simp(disch:=omega)only[wk,tupled,↓reduceIte,reduceEqDiff,reduceEq,reduceAdd,reduceCtorEq,h1,h2]
 . have h2:¬w<2048:=by omega
   simp(disch:=omega)only[wk,tupled,↓reduceIte,reduceEqDiff,reduceEq,reduceAdd,reduceCtorEq,h1,h2]
theorem low_ic (p:AV) (w:Int) (H:Heap) (hp:pcOn c148 [p,.int .u64 w]=false):(cbL tab).ic 148 [p,.int .u64 w] H=some (.ret (.bool true),H):=by
 refine ic_val (ic_wp (fi:=c148) rfl hp (by simp[c148]) (by decide) ?_)
 unfold c148
 simp(disch:=omega)only[wk,tupled,↓reduceIte,reduceEqDiff,reduceEq,reduceAdd,reduceCtorEq]
theorem way_ic (p:AV) (w:Int) (H:Heap) (hp:pcOn c155 [p,.int .u64 w]=false):(cbL tab).ic 155 [p,.int .u64 w] H=some (.ret (.bool (decide (w<=2))),H):=by
 refine ic_val (ic_wp (fi:=c155) rfl hp (by simp[c155]) (by decide) ?_)
 unfold c155
 by_cases h1:w<=2
 . simp(disch:=omega)only[wk,tupled,↓reduceIte,reduceEqDiff,reduceEq,reduceAdd,reduceCtorEq,h1]
 . simp(disch:=omega)only[wk,tupled,↓reduceIte,reduceEqDiff,reduceEq,reduceAdd,reduceCtorEq,h1]
theorem left_ic (a:Nat) (v:Int) (r:List AV) (w:Int) (H:Heap) (hv:0<=v) (h:H[a]? =some (.cells (.int .i64 v::r))):(cbL tab).ic 151 [.ptr a 0,.int .u64 w] H=some (.ret (.bool (decide (if v=0 then w=leafL else blockI w))),H):=by
 refine ic_val (ic_wp (fi:=c151) rfl rfl (by simp[c151]) (by decide) ?_)
 unfold c151
 have e:leafL=9223372036854775808:=rfl
 rw[e]
 have b:=block_px
 by_cases h1:v=0
 . subst h1
   by_cases h2:w=9223372036854775808
   . simp(disch:=omega)only[wk,tupled,↓reduceIte,reduceEqDiff,reduceEq,reduceAdd,reduceCtorEq,runG_un,h,h2]
   . simp(disch:=omega)only[wk,tupled,↓reduceIte,reduceEqDiff,reduceEq,reduceAdd,reduceCtorEq,runG_un,h,h2]
 . have h3:v>0:=by omega
   simp(disch:=omega)only[wk,tupled,↓reduceIte,reduceEqDiff,reduceEq,reduceAdd,reduceCtorEq,runG_un,h,h1,h3,b]
theorem putm_ic (a:Nat) (c0 c1 c2 c3 c4 c5:AV) (w:Int) (H:Heap) (hw:nmark<=w) (hw2:w<=nmark+12) (h:H[a]? =some (.cells [c0,c1,c2,c3,c4,c5])):(cbL tab).ic 143 [.ptr a 0,.int .u64 w] H=some (.ret (.tup []),H.set a (.cells [.int .i64 (w-nmark),c1,c2,c3,c4,c5])):=by
 refine ic_val (ic_wp (fi:=c143) rfl rfl (by simp[c143]) (by decide) ?_)
 unfold c143
 have e:nmark=7522529147838689024:=rfl
 rw[e]at hw hw2 ⊢
 simp(disch:=omega)only[wk,tupled,↓reduceIte,reduceEqDiff,reduceEq,reduceAdd,reduceCtorEq,h]
theorem puts_ic (a:Nat) (c0 c1 c2 c3 c4 c5:AV) (w:Int) (H:Heap) (hw:0<=w) (hw2:w<=2047) (h:H[a]? =some (.cells [c0,c1,c2,c3,c4,c5])):(cbL tab).ic 146 [.ptr a 0,.int .u64 w] H=some (.ret (.tup []),H.set a (.cells [c0,.int .i64 w,c2,c3,c4,c5])):=by
 refine ic_val (ic_wp (fi:=c146) rfl rfl (by simp[c146]) (by decide) ?_)
 unfold c146
 simp(disch:=omega)only[wk,tupled,↓reduceIte,reduceEqDiff,reduceEq,reduceAdd,reduceCtorEq,h]
theorem putl_ic (a:Nat) (c0 c1 c2 c3 c4 c5:AV) (w:Int) (H:Heap) (h:H[a]? =some (.cells [c0,c1,c2,c3,c4,c5])):(cbL tab).ic 149 [.ptr a 0,.int .u64 w] H=some (.ret (.tup []),H.set a (.cells [c0,c1,.int .u64 w,c3,c4,c5])):=by
 refine ic_val (ic_wp (fi:=c149) rfl rfl (by simp[c149]) (by decide) ?_)
 unfold c149
 simp(disch:=omega)only[wk,tupled,↓reduceIte,reduceEqDiff,reduceEq,reduceAdd,reduceCtorEq,h]
theorem putf_ic (a:Nat) (c0 c1 c2 c3 c4 c5:AV) (w:Int) (H:Heap) (h:H[a]? =some (.cells [c0,c1,c2,c3,c4,c5])):(cbL tab).ic 153 [.ptr a 0,.int .u64 w] H=some (.ret (.tup []),H.set a (.cells [c0,c1,c2,.int .u64 w,c4,c5])):=by
 refine ic_val (ic_wp (fi:=c153) rfl rfl (by simp[c153]) (by decide) ?_)
 unfold c153
 simp(disch:=omega)only[wk,tupled,↓reduceIte,reduceEqDiff,reduceEq,reduceAdd,reduceCtorEq,h]
theorem puty_ic (a:Nat) (c0 c1 c2 c3 c4 c5:AV) (w:Int) (H:Heap) (hw:0<=w) (hw2:w<=2) (h:H[a]? =some (.cells [c0,c1,c2,c3,c4,c5])):(cbL tab).ic 156 [.ptr a 0,.int .u64 w] H=some (.ret (.tup []),H.set a (.cells [c0,c1,c2,c3,.int .i64 w,c5])):=by
 refine ic_val (ic_wp (fi:=c156) rfl rfl (by simp[c156]) (by decide) ?_)
 unfold c156
 simp(disch:=omega)only[wk,tupled,↓reduceIte,reduceEqDiff,reduceEq,reduceAdd,reduceCtorEq,h]
theorem nz_px (x:Int) (H:Heap):pcx (cbL tab) 95 [.int .u64 x] H=some (.plain (.bool (decide (x≠0)))):=by
 refine pcx_N rfl (pc_wp (fi:=c95) rfl rfl (by simp[c95]) (by decide) ?_)
 unfold c95
 by_cases h:x=0
 . simp(disch:=omega)only[wk,tupled,↓reduceIte,reduceEqDiff,reduceEq,reduceAdd,reduceCtorEq,lend,unown,h,purify,unownT,lend,unown,AV.hf]
 . simp(disch:=omega)only[wk,tupled,↓reduceIte,reduceEqDiff,reduceEq,reduceAdd,reduceCtorEq,lend,unown,h,purify,unownT,lend,unown,AV.hf]
theorem spare_px (a b c:Int) (rest:List AV) (tk:Tk) (H:Heap) (hr:hfL rest=true):pcx (cbL tab) 94 [.sl 1 3 (.int .u64 a:: .int .u64 b:: .int .u64 c::rest) tk,.fn 95 []] H=some (.plain (.bool (decide (¬(a=0/\b=0/\c=0))))):=by
 have key:∀(H:Heap) (u:Tk),u.hf=true->pcx (cbL tab) 141 [.sl 1 3 (.int .u64 a:: .int .u64 b:: .int .u64 c::rest) u,.fn 95 []] H=some (.plain (.int .i64 (if a≠0 then 0 else if b≠0 then 1 else if c≠0 then 2 else-1))):=by
   intro H u hu
   obtain⟨u1,e1,f1⟩:=lend_sl 1 3 (.int .u64 a:: .int .u64 b:: .int .u64 c::rest) u
   refine pcx_N rfl (pc_wp (fi:=c141) rfl ?_ (by simp[c141]) (by decide) ?_)
   . simp only[pcOn,List.map_cons,List.map_nil,hfL,hf_lend_sl,hf_lend_int,hf_lend_bool,hf_lend_str,hfL_append,Bool.and_self,Bool.and_true,Bool.true_and,c141,hr];simp[hfL,AV.hf,hr,lend,unown]
   unfold c141
   rw[List.map_cons,List.map_cons,List.map_nil,e1]
   have nz:=nz_px
   simp(disch:=omega)only[wk,tupled,↓reduceIte,reduceEqDiff,reduceEq,reduceAdd,reduceCtorEq,lend,unown,List.map_nil]
   rw[ret_loop]
   by_cases ha:a=0
   case neg=>
     simp(disch:=omega)only[wk,tupled,↓reduceIte,reduceEqDiff,reduceEq,reduceAdd,reduceCtorEq,Int.reduceToNat,Int.reduceAdd,nz,ha,purify,unownT,lend,unown,AV.hf]
   simp(disch:=omega)only[wk,tupled,↓reduceIte,reduceEqDiff,reduceEq,reduceAdd,reduceCtorEq,Int.reduceToNat,Int.reduceAdd,nz,ha]
   refine ret_again (by decide) (.inl rfl) ?_
   rw[ret_loop]
   by_cases hb:b=0
   case neg=>
     simp(disch:=omega)only[wk,tupled,↓reduceIte,reduceEqDiff,reduceEq,reduceAdd,reduceCtorEq,Int.reduceToNat,Int.reduceAdd,nz,hb,purify,unownT,lend,unown,AV.hf]
   simp(disch:=omega)only[wk,tupled,↓reduceIte,reduceEqDiff,reduceEq,reduceAdd,reduceCtorEq,Int.reduceToNat,Int.reduceAdd,nz,hb]
   refine ret_again (by decide) (.inl rfl) ?_
   rw[ret_loop]
   by_cases hc:c=0
   case neg=>
     simp(disch:=omega)only[wk,tupled,↓reduceIte,reduceEqDiff,reduceEq,reduceAdd,reduceCtorEq,Int.reduceToNat,Int.reduceAdd,nz,hc,purify,unownT,lend,unown,AV.hf]
   simp(disch:=omega)only[wk,tupled,↓reduceIte,reduceEqDiff,reduceEq,reduceAdd,reduceCtorEq,Int.reduceToNat,Int.reduceAdd,nz,hc]
   refine ret_again (by decide) (.inl rfl) ?_
   rw[ret_loop]
   simp(disch:=omega)only[wk,tupled,↓reduceIte,reduceEqDiff,reduceEq,reduceAdd,reduceCtorEq,purify,unownT,lend,unown,AV.hf]
 obtain⟨u1,e1,f1⟩:=lend_sl 1 3 (.int .u64 a:: .int .u64 b:: .int .u64 c::rest) tk
 refine pcx_N rfl (pc_wp (fi:=c94) rfl ?_ (by simp[c94]) (by decide) ?_)
 . simp only[pcOn,List.map_cons,List.map_nil,hfL,hf_lend_sl,hf_lend_int,hf_lend_bool,hf_lend_str,hfL_append,Bool.and_self,Bool.and_true,Bool.true_and,c94,hr];simp[hfL,AV.hf,hr,lend,unown]
 unfold c94
 have k1:=fun H=>key H u1 f1
 rw[List.map_cons,List.map_cons,List.map_nil,e1]
 by_cases ha:a=0
 . by_cases hb:b=0
   . by_cases hc:c=0
     . simp only[ha,hb,hc,ne_eq,not_true_eq_false,if_false]at k1
       simp(disch:=omega)only[wk,tupled,↓reduceIte,reduceEqDiff,reduceEq,reduceAdd,reduceCtorEq,lend,unown,List.map_nil,k1,ha,hb,hc,purify,unownT,lend,unown,AV.hf]
       rfl
     . simp only[ha,hb,hc,ne_eq,not_true_eq_false,not_false_eq_true,if_true,if_false]at k1
       simp(disch:=omega)only[wk,tupled,↓reduceIte,reduceEqDiff,reduceEq,reduceAdd,reduceCtorEq,lend,unown,List.map_nil,k1,ha,hb,hc,purify,unownT,lend,unown,AV.hf,and_false]
       rfl
   . simp only[ha,hb,ne_eq,not_true_eq_false,not_false_eq_true,if_true,if_false]at k1
     simp(disch:=omega)only[wk,tupled,↓reduceIte,reduceEqDiff,reduceEq,reduceAdd,reduceCtorEq,lend,unown,List.map_nil,k1,ha,hb,purify,unownT,lend,unown,AV.hf,false_and,and_false]
     rfl
 . simp only[ha,ne_eq,not_false_eq_true,if_true]at k1
   simp(disch:=omega)only[wk,tupled,↓reduceIte,reduceEqDiff,reduceEq,reduceAdd,reduceCtorEq,lend,unown,List.map_nil,k1,ha,purify,unownT,lend,unown,AV.hf,false_and]
   rfl
def partsA:List AV:=[.fn 142 [],.fn 143 [],.fn 144 [],.fn 145 [],.fn 146 [],.fn 147 [],.fn 148 [],.fn 149 [],.fn 150 [],.fn 151 [],.fn 153 [],.fn 154 [],.fn 155 [],.fn 156 [],.fn 157 []]
theorem parts_px (H:Heap):pcx (cbL tab) 96 [] H=some (.plain (.sl 3 5 partsA .ro)):=by
 refine pcx_N rfl (pc_wp (fi:=c96) rfl rfl (by simp[c96]) (by decide) ?_)
 unfold c96
 simp(disch:=omega)only[wk,tupled,↓reduceIte,reduceEqDiff,reduceEq,reduceAdd,reduceCtorEq,purify,unownT,lend,unown,AV.hf,partsA,Tk.hf,hfL]
theorem n210 (H:Heap):newO (some (.ret (.tup [.agg [.int .i64 0,.int .i64 0,.int .u64 0,.int .u64 0,.int .i64 0,.sl 0 0 [] .z],.int .i64 210]),H))=some (.fval (.tup [.agg [.int .i64 0,.int .i64 0,.int .u64 0,.int .u64 0,.int .i64 0,.sl 0 0 [] .z],.int .i64 210])):=rfl
theorem of_words (h:Hd) (hu:h.u) (ps:List (Int×Int)) (hp:ps.length=28) (rest:List AV) (tk:Tk) (H:Heap) (hc:hfL rest=true):
   pcx (cbL tab) 58 [.sl 1 64 (wordsA h ps rest) tk] H=some (.plain (.tup [if h.ok then(ndOf h ps).av else nd0.av,.int .i64 (if h.ok then 0 else 210)])):=by
 have hcs:=hf_words h ps rest hc
 obtain⟨u1,e1,f1⟩:=lend_sl 1 64 (wordsA h ps rest) tk
 refine pcx_L5 rfl (by rw[List.map_cons,List.map_nil,lendK_sl]) (pc_wp5 (fi:=c58) rfl ?_ (by simp[c58]) (by decide) ?_)
 . simp only[pcOn,List.map_cons,List.map_nil,hfL,hf_lend_sl,hf_lend_int,hf_lend_bool,hf_lend_str,hfL_append,Bool.and_self,Bool.and_true,Bool.true_and,c58,hcs]
 unfold c58
 rw[List.map_cons,List.map_nil,e1]
 have hcr:hfL (encs pairA ps++rest)=true:=by rw[hfL_append,hf_pairA,hc];rfl
 have lw:56<=(encs pairA ps++rest).length:=by rw[List.length_append,encs_length (f:=pairA) (k:=2),hp];omega
 have rp:∀f,f≠0->∀H,pcx (cbL tab) 97 [.int .u64 f,.sl 1 56 (encs pairA ps++rest) .ro] H=some (prRow 2 pairA (rdL f ps)):=fun f hf H=>by
   have:=slotsread f ps rest .ro hc ⟨hf,by omega,by omega,by omega⟩
   rw[row,hp]at this
   exact pcx_N rfl this
 obtain⟨m,s,l,f,y,a,b,c⟩:=h
 obtain⟨hum,hus,hul,huf,huy⟩:=hu
 dsimp only at hum hus hul huf huy
 simp only[wordsA,Hd.cells,List.cons_append,List.nil_append,ndOf]
 generalize hW:encs pairA ps++rest=W at*
 have sp:=fun u H=>spare_px a b c W u H hcr
 have pp:=parts_px
 have em:nmark=7522529147838689024:=rfl
 by_cases hab:a=0/\b=0/\c=0
 case neg=>
   have hn:¬(Hd.mk m s l f y a b c).ok:=fun k=>hab k.2.2.2.2.2
   simp(disch:=omega)only[wk,tupled,↓reduceIte,reduceEqDiff,reduceEq,reduceAdd,reduceCtorEq,Int.reduceToNat,Int.reduceAdd,Int.reduceSub,Int.reduceMul,Int.reduceNeg,Nat.reduceSub,Nat.reduceDiv,sp,hab,hn]
   rw[ret_scp_goto rfl]
   refine ret_again (by decide) (.inl rfl) ?_
   simp(disch:=omega)only[wk,tupled,↓reduceIte,reduceEqDiff,reduceEq,reduceAdd,reduceCtorEq,nd0_av,hn,n210]
 obtain⟨rfl,rfl,rfl⟩:=hab
 simp(disch:=omega)only[wk,tupled,↓reduceIte,reduceEqDiff,reduceEq,reduceAdd,reduceCtorEq,Int.reduceToNat,Int.reduceAdd,Int.reduceSub,Int.reduceMul,Int.reduceNeg,Nat.reduceSub,Nat.reduceDiv,sp,pp]
 rw[ret_loop]
 have i96:=fun H=>mark_ic (.ptr 0 0) m H rfl
 by_cases hm:nmark<=m/\m<=nmark+12
 case neg=>
   have hn:¬(Hd.mk m s l f y 0 0 0).ok:=fun k=>hm ⟨k.1,k.2.1⟩
   simp(disch:=omega)only[wk,tupled,↓reduceIte,reduceEqDiff,reduceEq,reduceAdd,reduceCtorEq,partsA,Int.reduceToNat,Int.reduceAdd,Int.reduceSub,Int.reduceMul,Int.reduceNeg,Nat.reduceSub,Nat.reduceDiv,in_96,runE_none ll_96,i96,hm]
   rw[ret_scp_goto rfl]
   refine ret_again (by decide) (.inl rfl) ?_
   simp(disch:=omega)only[wk,tupled,↓reduceIte,reduceEqDiff,reduceEq,reduceAdd,reduceCtorEq,nd0_av,hn,n210]
 have p97:=fun(T:Heap) c0 c1 c2 c3 c4 c5=>putm_ic 0 c0 c1 c2 c3 c4 c5 m (.cells [c0,c1,c2,c3,c4,c5]::T) hm.1 hm.2 rfl
 simp(disch:=omega)only[wk,tupled,↓reduceIte,reduceEqDiff,reduceEq,reduceAdd,reduceCtorEq,partsA,Int.reduceToNat,Int.reduceAdd,Int.reduceSub,Int.reduceMul,Int.reduceNeg,Nat.reduceSub,Nat.reduceDiv,in_96,runE_none ll_96,i96,hm,in_97,runE_none ll_97,p97]
 refine ret_again (by decide) (.inl rfl) ?_
 rw[ret_loop]
 have i99:=fun H=>sib_ic (.ptr 0 0) s H rfl
 by_cases hs:s<=2047
 case neg=>
   have hn:¬(Hd.mk m s l f y 0 0 0).ok:=fun k=>hs k.2.2.1
   simp(disch:=omega)only[wk,tupled,↓reduceIte,reduceEqDiff,reduceEq,reduceAdd,reduceCtorEq,partsA,Int.reduceToNat,Int.reduceAdd,Int.reduceSub,Int.reduceMul,Int.reduceNeg,Nat.reduceSub,Nat.reduceDiv,in_99,runE_none ll_99,i99,hs]
   rw[ret_scp_goto rfl]
   refine ret_again (by decide) (.inl rfl) ?_
   simp(disch:=omega)only[wk,tupled,↓reduceIte,reduceEqDiff,reduceEq,reduceAdd,reduceCtorEq,nd0_av,hn,n210]
 have p100:=fun(T:Heap) c0 c1 c2 c3 c4 c5=>puts_ic 0 c0 c1 c2 c3 c4 c5 s (.cells [c0,c1,c2,c3,c4,c5]::T) hus.1 hs rfl
 simp(disch:=omega)only[wk,tupled,↓reduceIte,reduceEqDiff,reduceEq,reduceAdd,reduceCtorEq,partsA,Int.reduceToNat,Int.reduceAdd,Int.reduceSub,Int.reduceMul,Int.reduceNeg,Nat.reduceSub,Nat.reduceDiv,in_99,runE_none ll_99,i99,hs,in_100,runE_none ll_100,p100]
 refine ret_again (by decide) (.inl rfl) ?_
 rw[ret_loop]
 have i102:=fun H=>low_ic (.ptr 0 0) l H rfl
 have p103:=fun(T:Heap) c0 c1 c2 c3 c4 c5=>putl_ic 0 c0 c1 c2 c3 c4 c5 l (.cells [c0,c1,c2,c3,c4,c5]::T) rfl
 simp(disch:=omega)only[wk,tupled,↓reduceIte,reduceEqDiff,reduceEq,reduceAdd,reduceCtorEq,partsA,Int.reduceToNat,Int.reduceAdd,Int.reduceSub,Int.reduceMul,Int.reduceNeg,Nat.reduceSub,Nat.reduceDiv,in_102,runE_none ll_102,i102,in_103,runE_none ll_103,p103]
 refine ret_again (by decide) (.inl rfl) ?_
 rw[ret_loop]
 have i105:=fun(T:Heap) r=>left_ic 0 (m-nmark) r f (.cells (.int .i64 (m-nmark)::r)::T) (by omega) rfl
 have hmk:m-nmark=0↔m=nmark:=by omega
 by_cases hf:if m=nmark then f=leafL else blockI f
 case neg=>
   have hn:¬(Hd.mk m s l f y 0 0 0).ok:=fun k=>hf k.2.2.2.1
   simp only[hmk,hf,decide_false]at i105
   simp(disch:=omega)only[wk,tupled,↓reduceIte,reduceEqDiff,reduceEq,reduceAdd,reduceCtorEq,partsA,Int.reduceToNat,Int.reduceAdd,Int.reduceSub,Int.reduceMul,Int.reduceNeg,Nat.reduceSub,Nat.reduceDiv,in_105,runE_none ll_105,i105]
   rw[ret_scp_goto rfl]
   refine ret_again (by decide) (.inl rfl) ?_
   simp(disch:=omega)only[wk,tupled,↓reduceIte,reduceEqDiff,reduceEq,reduceAdd,reduceCtorEq,nd0_av,hn,n210]
 simp only[hmk,hf,decide_true]at i105
 have p107:=fun(T:Heap) c0 c1 c2 c3 c4 c5=>putf_ic 0 c0 c1 c2 c3 c4 c5 f (.cells [c0,c1,c2,c3,c4,c5]::T) rfl
 simp(disch:=omega)only[wk,tupled,↓reduceIte,reduceEqDiff,reduceEq,reduceAdd,reduceCtorEq,partsA,Int.reduceToNat,Int.reduceAdd,Int.reduceSub,Int.reduceMul,Int.reduceNeg,Nat.reduceSub,Nat.reduceDiv,in_105,runE_none ll_105,i105,in_107,runE_none ll_107,p107]
 refine ret_again (by decide) (.inl rfl) ?_
 rw[ret_loop]
 have i109:=fun H=>way_ic (.ptr 0 0) y H rfl
 by_cases hy:y<=2
 case neg=>
   have hn:¬(Hd.mk m s l f y 0 0 0).ok:=fun k=>hy k.2.2.2.2.1
   simp(disch:=omega)only[wk,tupled,↓reduceIte,reduceEqDiff,reduceEq,reduceAdd,reduceCtorEq,partsA,Int.reduceToNat,Int.reduceAdd,Int.reduceSub,Int.reduceMul,Int.reduceNeg,Nat.reduceSub,Nat.reduceDiv,in_109,runE_none ll_109,i109,hy]
   rw[ret_scp_goto rfl]
   refine ret_again (by decide) (.inl rfl) ?_
   simp(disch:=omega)only[wk,tupled,↓reduceIte,reduceEqDiff,reduceEq,reduceAdd,reduceCtorEq,nd0_av,hn,n210]
 have p110:=fun(T:Heap) c0 c1 c2 c3 c4 c5=>puty_ic 0 c0 c1 c2 c3 c4 c5 y (.cells [c0,c1,c2,c3,c4,c5]::T) huy.1 hy rfl
 simp(disch:=omega)only[wk,tupled,↓reduceIte,reduceEqDiff,reduceEq,reduceAdd,reduceCtorEq,partsA,Int.reduceToNat,Int.reduceAdd,Int.reduceSub,Int.reduceMul,Int.reduceNeg,Nat.reduceSub,Nat.reduceDiv,in_109,runE_none ll_109,i109,hy,in_110,runE_none ll_110,p110]
 refine ret_again (by decide) (.inl rfl) ?_
 rw[ret_loop]
 have hok:(Hd.mk m s l f y 0 0 0).ok:=⟨hm.1,hm.2,hs,hf,hy,rfl,rfl,rfl⟩
 have rp':=rp f (Hd.left hok)
 simp(disch:=omega)only[wk,tupled,↓reduceIte,reduceEqDiff,reduceEq,reduceAdd,reduceCtorEq,partsA,Int.reduceToNat,Int.reduceAdd,Int.reduceSub,Int.reduceMul,Int.reduceNeg,Nat.reduceSub,Nat.reduceDiv,rp',hok]
 refine runE_row (fun sz tk' H1 hz ho htk hup hle=> ?_)
 have h1:=hup 0 _ rfl
 have u1':∀k n,unown (.int k n)= .int k n:=fun _ _=>rfl
 have hu:=own_unown ho (fun s n c e=>by cases e;exact htk rfl)
 have s0:∀(o:AObj),(H1.set 0 o)[0]? =some o:=fun o=>set_eq h1
 have s1:∀(o q:AObj),(H1.set 0 o).set 0 q=H1.set 0 q:=fun o q=>List.set_set ..
 have s2:∀(o:AObj),((H1.set 0 o).set 0 o)[0]? =some o:=fun o=>by rw[s1];exact s0 o
 simp(disch:=omega)only[wk,tupled,↓reduceIte,reduceEqDiff,reduceEq,reduceAdd,reduceCtorEq,h1,s0,s1,s2]
 have nw:∀o,newC (H1.set 0 (.cells o)) (.sl sz (rdL f ps).length (encs pairA (rdL f ps)) tk')=some (slvR 2 pairA (rdL f ps)):=fun o=>newC_own (ho.set h1 (by intro s e;cases e)) (scal_pairA _) (fun s n c e=>by cases e;exact htk rfl)
 have ni:∀(H:Heap) k i,newC H (.int k i)=some (.int k i):=fun _ _ _=>rfl
 simp only[newO,newV,mapN,newA,ni,nw,Option.map_some,Nd.av,Nd.cells]
def Nd.cs (n:Nd):List AV:=n.cells (slvR 2 pairA n.ps)
theorem lend_Nd (n:Nd):lend n.av=n.av:=by
 simp only[Nd.av,Nd.cells,lend,List.map_cons,List.map_nil,slvR_unown]
 rfl
theorem lend_Nc (n:Nd):lend (.agg (Nd.cs n))= .agg (Nd.cs n):=lend_Nd n
theorem hf_Nc (n:Nd):(AV.agg (Nd.cs n)).hf=true:=hf_Nd n
theorem one_Nc (n:Nd):allOne (Nd.cs n)=true:=by
 simp only[Nd.cs,Nd.cells,allOne,slvR_one]
 rfl
theorem may_px (n:Nd) (p:Int×Int) (H:Heap):pcx (cbL tab) 162 [.agg (Nd.cs n),.agg (pairA p)] H=some (.plain (.bool (decide (mayN n.v n.l p)))):=by
 obtain⟨k,q⟩:=p
 have ep:lend (.agg (pairA (k,q)))= .agg (pairA (k,q)):=rfl
 refine pcx_N rfl (pc_wp (fi:=c162) rfl ?_ (by simp[c162]) (by decide) ?_)
 . simp only[pcOn,c162,List.map_cons,List.map_nil,lend_Nc,ep,hfL,hf_Nc,Bool.true_and];rfl
 unfold c162
 rw[List.map_cons,List.map_cons,List.map_nil,ep,lend_Nc]
 have on:=one_Nc n
 have bl:=block_px
 obtain⟨v,s,l,f,y,ps⟩:=n
 simp only[Nd.cs,Nd.cells]at on ⊢
 generalize slvR 2 pairA ps=P at*
 have o1:AV.one P=true:=by
   simp only[allOne,Bool.and_eq_true]at on
   exact on.2.2.2.2.2.1
 by_cases hv:v=0
 . by_cases h1:1<=q
   . by_cases h2:q<=1099511627776
     . by_cases h3:l<=k
       . simp(disch:=omega)only[wk,tupled,↓reduceIte,reduceEqDiff,reduceEq,reduceAdd,reduceCtorEq,pairA,o1,hv,h1,h2,h3,mayN,purify,unownT,lend,unown,AV.hf,runG_un]
       . simp(disch:=omega)only[wk,tupled,↓reduceIte,reduceEqDiff,reduceEq,reduceAdd,reduceCtorEq,pairA,o1,hv,h1,h2,h3,mayN,purify,unownT,lend,unown,AV.hf,runG_un,and_false]
     . simp(disch:=omega)only[wk,tupled,↓reduceIte,reduceEqDiff,reduceEq,reduceAdd,reduceCtorEq,pairA,o1,hv,h1,h2,mayN,purify,unownT,lend,unown,AV.hf,runG_un,and_false,false_and]
   . simp(disch:=omega)only[wk,tupled,↓reduceIte,reduceEqDiff,reduceEq,reduceAdd,reduceCtorEq,pairA,o1,hv,h1,mayN,purify,unownT,lend,unown,AV.hf,runG_un,and_false,false_and]
 . by_cases h1:blockI q
   . by_cases h3:l<k
     . simp(disch:=omega)only[wk,tupled,↓reduceIte,reduceEqDiff,reduceEq,reduceAdd,reduceCtorEq,pairA,o1,hv,bl,h1,h3,mayN,purify,unownT,lend,unown,AV.hf,runG_un]
     . simp(disch:=omega)only[wk,tupled,↓reduceIte,reduceEqDiff,reduceEq,reduceAdd,reduceCtorEq,pairA,o1,hv,bl,h1,h3,mayN,purify,unownT,lend,unown,AV.hf,runG_un,and_false]
   . simp(disch:=omega)only[wk,tupled,↓reduceIte,reduceEqDiff,reduceEq,reduceAdd,reduceCtorEq,pairA,o1,hv,bl,h1,mayN,purify,unownT,lend,unown,AV.hf,runG_un,and_false,false_and]
theorem cn93 (p:Int×Int) (id:Nat) (H:Heap):pcx (cbL tab) 161 [.agg (pairA p),.ptr id 0] H=none:=pcx_none rfl (pc_none (fi:=c161) rfl rfl)
theorem l93:(cbL tab).lent 161=false:=rfl
theorem not_ic (p:Int×Int) (id:Nat) (n:Nd) (H:Heap) (h:H[id]? =some (.cells (Nd.cs n))):
   (cbL tab).ic 161 [.agg (pairA p),.ptr id 0] H=some (.ret (.bool (!decide (mayN n.v n.l p))),H++[.cells (pairA p)]):=by
 refine ic_val (ic_wp (fi:=c161) rfl rfl (by simp[c161]) (by decide) ?_)
 unfold c161
 have e1:∀o:AObj,(H++[o])[H.length]? =some o:=fun o=>by simp
 have e0:∀o:AObj,(H++[o])[id]? =H[id]? :=fun o=>List.getElem?_append_left (by have:=(List.getElem?_eq_some_iff.1 h).1;exact this)
 have m:=may_px n p
 simp only[Nd.cs,Nd.cells]at m h
 simp only[pairA]at m ⊢
 simp(disch:=omega)only[wk,tupled,↓reduceIte,reduceEqDiff,reduceEq,reduceAdd,reduceCtorEq,e1,e0,h,m]
theorem index2_ic (n:Nd) (l:List (Int×Int)) (s:Nat) (tk:Tk) (id:Nat) (H:Heap) (hn:l.length<=1000) (hz:l≠[]->s=2) (h:H[id]? =some (.cells (Nd.cs n))):
   ∃ o H',(cbL tab).ic 223 [.sl s l.length (encs pairA l) tk,.fn 161 [.ptr id 0]] H=some (o,H')∧
     ((∃v,o= .ret (.int .i64 v)/\(0<=v↔¬mayAll n.v n.l l))/\(∀(i:Nat) (q:AObj),H[i]? =some q->H'[i]? =some q)/\H.length<=H'.length):=by
 refine ic_wp (fi:=c223) rfl (by simp[pcOn,c223,hfL,lend,unown,AV.hf]) (by simp[c223]) (by decide) ?_
 unfold c223
 simp(disch:=omega)only[wk,tupled,↓reduceIte,reduceEqDiff,reduceEq,reduceAdd,reduceCtorEq]
 refine loop_ind (fun(x:List (Int×Int)×List (Int×Int)) E df H1=>l=x.1++x.2/\(mayAll n.v n.l l↔mayAll n.v n.l x.2)/\E 0= .sl s l.length (encs pairA l) tk/\E 1= .fn 161 [.ptr id 0]/\E 7= .int .i64 (l.length:Nat)/\E 8= .int .i64 (x.1.length:Nat)/\df=[]∧
     (∀(i:Nat) (q:AObj),H[i]? =some q->H1[i]? =some q)/\H.length<=H1.length) (fun x=>x.2.length) ([],l) (by decide) (.inl rfl) ⟨rfl,Iff.rfl,rfl,rfl,rfl,rfl,rfl,fun _ _ h=>h,Nat.le_refl _⟩ ?_
 intro ⟨pre,suf⟩ E df H1 ih hP
 obtain⟨a1,a2,E0,E1,E7,E8,hdf,hup,hle⟩:=hP
 dsimp only at a1 a2 E8
 subst hdf a1
 simp only[List.length_append]at hn E7
 cases suf with
 | nil=>
   simp only[List.length_nil,Nat.add_zero]at E7
   simp(disch:=omega)only[wk,tupled,↓reduceIte,reduceEqDiff,reduceEq,reduceAdd,reduceCtorEq,E0,E1,E7,E8]
   refine⟨⟨_,rfl, ?_⟩,hup,hle⟩
   rw[a2]
   simp[mayAll]
 | cons x r=>
   simp only[List.length_cons]at hn E7
   obtain rfl:=hz (by simp)
   obtain⟨k,q⟩:=x
   have c1:=cn93 (k,q) id H1
   have c2:=not_ic (k,q) id n H1 (hup _ _ h)
   simp only[pairA]at c1 c2
   have a3:mayAll n.v n.l ((k,q)::r)↔mayN n.v n.l (k,q)/\mayAll n.v n.l r:=by simp[mayAll]
   have up2:∀(i:Nat) (o:AObj),H[i]? =some o->(H1++[AObj.cells [.int .u64 k,.int .u64 q]])[i]? =some o:=fun i o ho=>by
     have:=hup i o ho
     rw[List.getElem?_append_left (List.getElem?_eq_some_iff.1 this).1];exact this
   by_cases hx:mayN n.v n.l (k,q)
   . simp only[hx,decide_true,Bool.not_true]at c2
     simp(disch:=omega)only[wk,tupled,↓reduceIte,reduceEqDiff,reduceEq,reduceAdd,reduceCtorEq,E0,E1,E7,E8,pairA,c1,c2,runE_none l93]
     refine ih (pre++[(k,q)],r) _ _ _ (by simp) ?_
     exact⟨by simp,by rw[a2,a3];simp[hx],by simp only[en,↓reduceIte,reduceEqDiff,E0],by simp only[en,↓reduceIte,reduceEqDiff,E1],by simp only[en,↓reduceIte,reduceEqDiff,E7],by simp only[en,↓reduceIte,reduceEqDiff],rfl,up2,by simp;omega⟩
   . simp only[hx,decide_false,Bool.not_false]at c2
     simp(disch:=omega)only[wk,tupled,↓reduceIte,reduceEqDiff,reduceEq,reduceAdd,reduceCtorEq,E0,E1,E7,E8,pairA,c1,c2,runE_none l93]
     refine⟨⟨_,rfl, ?_⟩,up2,by first|omega|(simp;omega)⟩
     rw[a2,a3]
     simp[hx]
     try omega
theorem l91n:(cbL tab).lent 223=false:=rfl
theorem l82n:(cbL tab).lent 160=false:=rfl
theorem cn82n (s n id:Nat) (cs:List AV) (tk:Tk) (H:Heap):pcx (cbL tab) 160 [.sl s n cs tk,.fn 161 [.ptr id 0]] H=none:=
 pcx_none rfl (pc_none (fi:=c160) rfl (by simp[pcOn,c160,hfL,lend,unown,AV.hf]))
theorem contains2_ic (n:Nd) (l:List (Int×Int)) (s:Nat) (tk:Tk) (id:Nat) (H:Heap) (hn:l.length<=1000) (hz:l≠[]->s=2) (h:H[id]? =some (.cells (Nd.cs n))):
   ∃ H',(cbL tab).ic 160 [.sl s l.length (encs pairA l) tk,.fn 161 [.ptr id 0]] H=some (.ret (.bool (decide (¬mayAll n.v n.l l))),H')∧
     (∀(i:Nat) (q:AObj),H[i]? =some q->H'[i]? =some q)/\H.length<=H'.length:=by
 obtain⟨o,H',k1,⟨v,rfl,hv⟩,k2,k3⟩:=index2_ic n l s tk id H hn hz h
 refine⟨H',ic_val (ic_wp (fi:=c160) rfl (by simp[pcOn,c160,hfL,lend,unown,AV.hf]) (by simp[c160]) (by decide) ?_),k2,k3⟩
 unfold c160
 have c1:∀H,pcx (cbL tab) 223 [.sl s l.length (encs pairA l) tk,.fn 161 [.ptr id 0]] H=none:=fun H=>pcx_none rfl (pc_none (fi:=c223) rfl (by simp[pcOn,c223,hfL,lend,unown,AV.hf]))
 simp(disch:=omega)only[wk,tupled,↓reduceIte,reduceEqDiff,reduceEq,reduceAdd,reduceCtorEq,c1,k1,runE_none l91n,hv]
theorem unown_i (k:IntKind) (n:Int):unown (.int k n)= .int k n:=rfl
theorem settled_words (h:Hd) (hu:h.u) (ps:List (Int×Int)) (hp:ps.length=28) (rest:List AV) (tk:Tk) (H:Heap) (hc:hfL rest=true):
   pcx (cbL tab) 99 [.sl 1 64 (wordsA h ps rest) tk] H=some (.plain (.tup [if h.ok/\chkE h ps=0 then(ndOf h ps).av else nd0.av,.int .i64 (if h.ok then chkE h ps else 210)])):=by
 have hcs:=hf_words h ps rest hc
 obtain⟨u1,e1,f1⟩:=lend_sl 1 64 (wordsA h ps rest) tk
 refine pcx_N rfl (pc_wp (fi:=c99) rfl ?_ (by simp[c99]) (by decide) ?_)
 . simp only[pcOn,List.map_cons,List.map_nil,hfL,hf_lend_sl,hf_lend_int,hf_lend_bool,hf_lend_str,hfL_append,Bool.and_self,Bool.and_true,Bool.true_and,c99,hcs]
 unfold c99
 rw[List.map_cons,List.map_nil,e1]
 have o:=fun H=>of_words h hu ps hp rest u1 H hc
 by_cases hok:h.ok
 case neg=>
   simp only[hok,if_false,nd0_av]at o
   simp only[hok,if_false,false_and,nd0_av]
   simp(disch:=omega)only[wk,tupled,↓reduceIte,reduceEqDiff,reduceEq,reduceAdd,reduceCtorEq,o,purify,unownT,lend,unown,AV.hf,hfL,Tk.hf]
 simp only[hok,if_true,true_and]at o ⊢
 have hlen:=rdL_le h.f ps
 have sc:∀H,pcx (cbL tab) 159 [.int .u64 h.f,.sl 1 56 (encs pairA ps++rest) .ro] H=some (.plain (.int .i64 (if okL h.f ps then 0 else 190))):=fun H=>by
   have:=slotscheck_yes h.f ps rest .ro H hc (Hd.row hok hp)
   rwa[row,hp]at this
 have ew:wordsA h ps rest= .int .u64 h.m:: .int .u64 h.s:: .int .u64 h.l:: .int .u64 h.f:: .int .u64 h.y:: .int .u64 h.a:: .int .u64 h.b:: .int .u64 h.c::(encs pairA ps++rest):=rfl
 have lw:56<=(encs pairA ps).length+rest.length:=by rw[encs_length (f:=pairA) (k:=2),hp];omega
 have en:(ndOf h ps).av= .agg [.int .i64 (h.m-nmark),.int .i64 h.s,.int .u64 h.l,.int .u64 h.f,.int .i64 h.y,slvR 2 pairA (rdL h.f ps)]:=rfl
 have sf:=slvR_hf (sz:=2) (f:=pairA) (fun _=>rfl) (rdL h.f ps)
 have so:=slvR_one (sz:=2) (f:=pairA) (rdL h.f ps)
 have su:=slvR_unown (sz:=2) (f:=pairA) (rdL h.f ps)
 have sv:∃(z:Nat) (k:Tk),slvR 2 pairA (rdL h.f ps)= .sl z (rdL h.f ps).length (encs pairA (rdL h.f ps)) k/\(rdL h.f ps≠[]->z=2):=by
   unfold slvR
   split
   . rename_i he
     exact⟨0,.z,rfl,fun hne=>absurd (List.isEmpty_iff.1 he) hne⟩
   . exact⟨2,.ro,rfl,fun _=>rfl⟩
 rw[en]at o ⊢
 have ec:∀(q:AV),q=slvR 2 pairA (rdL h.f ps)->[.int .i64 (h.m-nmark),.int .i64 h.s,.int .u64 h.l,.int .u64 h.f,.int .i64 h.y,q]=Nd.cs (ndOf h ps):=fun q e=>by rw[e];rfl
 by_cases h1:okL h.f ps
 case neg=>
   have e0:chkE h ps=190:=if_neg (fun k=>h1 k.1)
   simp only[h1,if_false]at sc
   simp only[e0,reduceEq,if_false,nd0_av]
   rw[ew]
   rw[ew]at o
   simp(disch:=omega)only[wk,tupled,↓reduceIte,reduceEqDiff,reduceEq,reduceAdd,reduceCtorEq,Int.reduceToNat,Int.reduceAdd,Int.reduceSub,Int.reduceMul,Int.reduceNeg,Nat.reduceSub,Nat.reduceDiv,o,sc,so,runG_un,purify,unownT,lend,unown,AV.hf,hfL,Tk.hf]
 simp only[h1,if_true]at sc
 obtain⟨z,k,ev,hz⟩:=sv
 have key:∀Hq:Heap,Hq[1]? =some (.cells (Nd.cs (ndOf h ps)))->∃H',(cbL tab).ic 160 [.sl z (rdL h.f ps).length (encs pairA (rdL h.f ps)) k,.fn 161 [.ptr 1 0]] Hq=some (.ret (.bool (decide (¬mayAll (h.m-nmark) h.l (rdL h.f ps)))),H')∧
     (∀(i:Nat) (q:AObj),Hq[i]? =some q->H'[i]? =some q)/\Hq.length<=H'.length:=fun Hq hq=>contains2_ic (ndOf h ps) (rdL h.f ps) z k 1 Hq (by omega) hz hq
 rw[ew]
 rw[ew]at o
 have cn:=fun H=>cn82n z (rdL h.f ps).length 1 (encs pairA (rdL h.f ps)) k H
 have hz0:=ec _ rfl
 rw[ev]at o so sf su ⊢ hz0
 obtain⟨H',k1,k2,k3⟩:=key [.cells [.int .i64 0,.int .i64 0,.int .u64 0,.int .u64 0,.int .i64 0,.sl 0 0 [] .z],.cells [.int .i64 (h.m-nmark),.int .i64 h.s,.int .u64 h.l,.int .u64 h.f,.int .i64 h.y,.sl z (rdL h.f ps).length (encs pairA (rdL h.f ps)) k]] (by rw[<-hz0];rfl)
 have g0:=k2 0 _ rfl
 have g1:=k2 1 _ rfl
 have s0:∀(o:AObj),(H'.set 0 o)[0]? =some o:=fun o=>set_eq g0
 by_cases h2:mayAll (h.m-nmark) h.l (rdL h.f ps)
 . have e0:chkE h ps=0:=if_pos ⟨h1,h2⟩
   simp only[h2,not_true_eq_false,decide_false]at k1
   simp only[e0,if_true]
   simp(disch:=omega)only[wk,tupled,↓reduceIte,reduceEqDiff,reduceEq,reduceAdd,reduceCtorEq,Int.reduceToNat,Int.reduceAdd,Int.reduceSub,Int.reduceMul,Int.reduceNeg,Nat.reduceSub,Nat.reduceDiv,o,sc,so,runG_un,cn,runE_none l82n,k1,g0,g1,s0]
   have kf:k.hf=true:=by
     have:=sf
     simp only[AV.hf,Bool.and_eq_true]at this
     exact this.2
   simp only[purify,unownT,List.map_cons,List.map_nil,lend,unown_i,su,AV.hf,hfL,hf_pairA,kf,Bool.and_self,if_true]
 . have e0:chkE h ps=190:=if_neg (fun q=>h2 q.2)
   simp only[h2,not_false_eq_true,decide_true]at k1
   simp only[e0,reduceEq,if_false,nd0_av]
   simp(disch:=omega)only[wk,tupled,↓reduceIte,reduceEqDiff,reduceEq,reduceAdd,reduceCtorEq,Int.reduceToNat,Int.reduceAdd,Int.reduceSub,Int.reduceMul,Int.reduceNeg,Nat.reduceSub,Nat.reduceDiv,o,sc,so,runG_un,cn,runE_none l82n,k1,g0,g1,s0,purify,unownT,lend,unown,AV.hf,hfL,Tk.hf]
end Go.Proofs.YtogbblcnfcfflaaGreat
namespace Go.Proofs.YtogbblcnfcfflaaGreat
open Go Go.Am Go.Slots Go.Rec
theorem refread_px (left:Int) (ps:List (Int×Int)) (rest:List AV) (tk:Tk) (H:Heap) (hn:ps.length<=1000) (hc:hfL rest=true):
   pcx (cbL tab) 62 [.int .u64 left,row ps rest tk] H=some (.plain (.tup [slvR 2 pairA (rdL left ps),slvR 1 intA (atL left 0 ps)])):=by
 obtain⟨u1,e1,f1⟩:=lend_sl 1 (2*ps.length) (encs pairA ps++rest) tk
 refine pcx_N rfl (pc_wp (fi:=c62) rfl ?_ (by simp[c62]) (by decide) ?_)
 . simp only[pcOn,List.map_cons,List.map_nil,hfL,hf_lend_sl,hf_lend_int,hf_lend_bool,hf_lend_str,hfL_append,Bool.and_self,Bool.and_true,Bool.true_and,c62,row,hc,hf_pairA]
 unfold c62
 rw[List.map_cons,List.map_cons,List.map_nil,row,e1,lend_int]
 simp(disch:=omega)only[wk,tupled,↓reduceIte,reduceEqDiff,reduceEq,reduceAdd,reduceCtorEq]
 have hraw:=rawL_le ps
 have rw1:=fun H=>pcx_N (H:=H) rfl (raw_pc ps rest u1 hn hc)
 refine loop_ind (fun(x:List (Int×Int)×List (Int×Int)×List (Int×Int)×List Int) E df H=>ps=x.1++x.2.1/\rawL ps=x.1.length+rawL x.2.1/\rdL left ps=x.2.2.1++rdL (lastP left x.1) x.2.1/\atL left 0 ps=x.2.2.2++atL (lastP left x.1) x.1.length x.2.1∧
     x.2.2.1.length<=x.1.length/\x.2.2.2.length=x.2.2.1.length∧
     E 0= .int .u64 left/\E 1=row ps rest u1/\E 8= .int .i64 (x.1.length:Nat)/\df=[]/\Own H 2 (E 6) x.2.2.1.length (encs pairA x.2.2.1)/\(∀a b c,E 6≠ .sl a b c .e)/\Own H 1 (E 7) x.2.2.2.length (encs intA x.2.2.2)/\(∀a b c,E 7≠ .sl a b c .e)/\(tokOf (E 6)=none∨tokOf (E 6)≠tokOf (E 7)))
   (fun x=>x.2.1.length) ([],ps,[],[]) (by decide) (.inl rfl) ⟨rfl,by simp,by simp[lastP],by simp[lastP],Nat.le_refl _,rfl,rfl,rfl,rfl,rfl,.inl ⟨.inl rfl,rfl,rfl⟩,(by intro a b c e;cases e),.inl ⟨.inl rfl,rfl,rfl⟩,(by intro a b c e;cases e),.inl rfl⟩ ?_
 intro ⟨pre,suf,out,at_⟩ E df H ih hP
 obtain⟨a1,a2,a3,a4,a5,a6,E0,E1,E8,hdf,o1,z1,o2,z2,hne⟩:=hP
 dsimp only at a1 a2 a3 a4 a5 a6 E8 o1 o2
 subst hdf
 have hl:ps.length=pre.length+suf.length:=by rw[a1,List.length_append]
 simp only[row]at rw1
 have fin:rdL (lastP left pre) suf=[]->atL (lastP left pre) pre.length suf=[]->purify (some (.ret (.tup [E 6,E 7]),H))=some (.plain (.tup [slvR 2 pairA (rdL left ps),slvR 1 intA (atL left 0 ps)])):=by
   intro g1 g2
   rw[g1,List.append_nil]at a3
   rw[g2,List.append_nil]at a4
   have w1:=own_lend o1 z1
   have w2:=own_lend o2 z2
   rw[purify_tup (own_sl o1)]
   simp only[List.map_cons,List.map_nil,w1,w2,AV.hf,hfL,slvR_hf (f:=pairA) (fun _=>rfl),slvR_hf (f:=intA) (fun _=>rfl),Bool.and_self,if_true,a3,a4]
 cases suf with
 | nil=>
   simp only[rawL,Nat.add_zero]at a2
   simp(disch:=omega)only[wk,tupled,↓reduceIte,reduceEqDiff,reduceEq,reduceAdd,reduceCtorEq,E0,E1,E8,row,rw1,a2]
   exact fin rfl rfl
 | cons x r=>
   simp only[List.length_cons]at hl
   by_cases hx:x.2=0
   . simp only[rawL,hx,if_true,Nat.add_zero]at a2
     simp(disch:=omega)only[wk,tupled,↓reduceIte,reduceEqDiff,reduceEq,reduceAdd,reduceCtorEq,E0,E1,E8,row,rw1,a2]
     exact fin (by simp[rdL,hx]) (by simp[atL,hx])
   have hlt:pre.length<rawL ps:=by rw[a2];simp only[rawL,hx,if_false];omega
   have p1:=fun H=>pcx_N (H:=H) rfl (ahead_pc left pre (x::r) rest u1 (by rw[<-a1];exact hn) hc)
   have d1:=row_ptr pre x r rest
   have d2:=row_key pre x r rest
   rw[<-a1]at p1 d1 d2
   simp only[row]at p1
   by_cases hq:x.2=lastP left pre
   . simp(disch:=omega)only[wk,tupled,↓reduceIte,reduceEqDiff,reduceEq,reduceAdd,reduceCtorEq,E0,E1,E8,row,rw1,p1,d1,hq]
     refine ih (pre++[x],r,out,at_) _ _ _ (by simp) ?_
     refine⟨by simp[a1],by simp only[a2,rawL,hx,if_false,List.length_append,List.length_cons,List.length_nil];omega, ?_, ?_,by simp only[List.length_append,List.length_cons,List.length_nil];omega,a6,by simp only[en,↓reduceIte,reduceEqDiff,E0],by simp only[en,↓reduceIte,reduceEqDiff,E1,row],by simp only[en,↓reduceIte,reduceEqDiff],rfl,by simp only[en,↓reduceIte,reduceEqDiff];exact o1,by simp only[en,↓reduceIte,reduceEqDiff];exact z1,by simp only[en,↓reduceIte,reduceEqDiff];exact o2,by simp only[en,↓reduceIte,reduceEqDiff];exact z2,by simp only[en,↓reduceIte,reduceEqDiff];exact hne⟩
     . rw[a3];simp only[rdL,hx,if_false,<-hq,if_true,lastP_snoc]
     . rw[a4];simp only[atL,hx,if_false,<-hq,if_true,lastP_snoc,List.length_append,List.length_cons,List.length_nil,Nat.zero_add]
   . simp(disch:=omega)only[wk,tupled,↓reduceIte,reduceEqDiff,reduceEq,reduceAdd,reduceCtorEq,E0,E1,E8,row,rw1,p1,d1,d2,hq,List.append_nil,List.append_nil]
     refine runX_app o1 (by omega) (by omega) (by omega) (by omega) rfl rfl (fun H1 q1 q2 q3=> ?_)
     simp(disch:=omega)only[wk,tupled,↓reduceIte,reduceEqDiff,reduceEq,reduceAdd,reduceCtorEq,E0,E1,E8,List.append_nil,List.append_nil]
     have o2':=o2.kept q2 hne
     refine runX_app o2' (by omega) (by omega) (by omega) (by omega) rfl rfl (fun H2 r1 r2 r3=> ?_)
     simp(disch:=omega)only[wk,tupled,↓reduceIte,reduceEqDiff,reduceEq,reduceAdd,reduceCtorEq,E0,E1,E8]
     refine ih (pre++[x],r,out++[x],at_++[(pre.length:Int)]) _ _ _ (by simp) ?_
     have s1:encs pairA (out++[x])=encs pairA out++[.int .u64 x.1,.int .u64 x.2]:=by rw[encs_append];rfl
     have s2:encs intA (at_++[(pre.length:Int)])=encs intA at_++[.int .i64 pre.length]:=by rw[encs_append];rfl
     refine⟨by simp[a1],by simp only[a2,rawL,hx,if_false,List.length_append,List.length_cons,List.length_nil];omega, ?_, ?_,by simp only[List.length_append,List.length_cons,List.length_nil];omega,by simp[a6],by simp only[en,↓reduceIte,reduceEqDiff,E0],by simp only[en,↓reduceIte,reduceEqDiff,E1,row],by simp only[en,↓reduceIte,reduceEqDiff],rfl, ?_, ?_, ?_, ?_, ?_⟩
     . rw[a3];simp only[rdL,hx,if_false,hq,lastP_snoc,List.append_assoc,List.cons_append,List.nil_append]
     . rw[a4];simp only[atL,hx,if_false,hq,lastP_snoc,List.append_assoc,List.cons_append,List.nil_append,List.length_append,List.length_cons,List.length_nil,Nat.zero_add]
     . simp only[s1]
       simp only[en,↓reduceIte,reduceEqDiff]
       refine q1.kept r2 ?_
       by_cases ht:tokOf (E 7)=none
       . exact .inl ht
       . right
         intro e
         obtain⟨g,hg⟩:=Option.ne_none_iff_exists'.1 ht
         have:=o2.tok_lt hg
         rw[hg]at e
         simp only[tokOf,Option.some.injEq]at e
         omega
     . simp only[en,↓reduceIte,reduceEqDiff];intro a b c e;cases e
     . simp only[s2]
       simp only[en,↓reduceIte,reduceEqDiff]
       exact r1
     . simp only[en,↓reduceIte,reduceEqDiff];intro a b c e;cases e
     . right
       simp only[en,↓reduceIte,reduceEqDiff]
       simp only[tokOf,ne_eq,Option.some.injEq]
       omega
theorem fine_px (left:Int) (l:List (Int×Int)) (s:Nat) (tk:Tk) (H:Heap) (hn:l.length<=1000) (hz:l≠[]->s=2):
   pcx (cbL tab) 164 [.int .u64 left,.sl s l.length (encs pairA l) tk] H=some (.plain (.bool (decide (risingL l/\distL [left] l)))):=by
 obtain⟨u1,e1,f1⟩:=lend_sl s l.length (encs pairA l) tk
 refine pcx_N rfl (pc_wp (fi:=c164) rfl ?_ (by simp[c164]) (by decide) ?_)
 . simp only[pcOn,List.map_cons,List.map_nil,hfL,hf_lend_sl,hf_lend_int,hf_lend_bool,hf_lend_str,hfL_append,Bool.and_self,Bool.and_true,Bool.true_and,c164,hf_pairA]
 unfold c164
 rw[List.map_cons,List.map_cons,List.map_nil,e1,lend_int]
 simp(disch:=omega)only[wk,tupled,↓reduceIte,reduceEqDiff,reduceEq,reduceAdd,reduceCtorEq]
 refine loop_ind (fun(x:List (Int×Int)×List (Int×Int)) E df H=>l=x.1++x.2/\((risingL l/\distL [left] l)↔fineF left x.1 x.2)/\E 0= .int .u64 left/\E 1= .sl s l.length (encs pairA l) u1/\E 5= .int .i64 (x.1.length:Nat)/\df=[]/\H=[])
   (fun x=>x.2.length) ([],l) (by decide) (.inl rfl) ⟨rfl,(fineF_top left l).symm,rfl,rfl,rfl,rfl,rfl⟩ ?_
 intro ⟨pre,suf⟩ E df H ih hP
 obtain⟨a1,a2,E0,E1,E5,hdf,hH⟩:=hP
 dsimp only at a1 a2 E5
 subst hdf hH
 have hl:l.length=pre.length+suf.length:=by rw[a1,List.length_append]
 have hcl:(encs pairA l).length=l.length*2:=encs_length l
 cases suf with
 | nil=>
   simp only[List.length_nil]at hl
   have:risingL l/\distL [left] l:=a2.2 trivial
   simp(disch:=omega)only[wk,tupled,↓reduceIte,reduceEqDiff,reduceEq,reduceAdd,reduceCtorEq,E0,E1,E5,purify,unownT,lend,unown,AV.hf,this]
 | cons x r=>
   simp only[List.length_cons]at hl
   obtain rfl:=hz (by rw[a1];simp)
   obtain⟨k,q⟩:=x
   have d1:List.drop (pre.length*2) (encs pairA l)=pairA (k,q)++encs pairA r:=by rw[a1,drop_pre,encs_cons]
   have hh:=fun H=>pcx_N (H:=H) rfl (has_pc pre q (encs pairA ((k,q)::r)) 2 .ro (by omega) (fun _=>rfl) (hf_pairA _))
   rw[<-encs_append,<-a1]at hh
   simp only[pairA]at d1
   rcases List.eq_nil_or_concat pre with rfl|⟨p',y,rfl⟩
   . have hrs:rises [] (k,q):=trivial
     simp only[List.length_nil,Nat.zero_mul,List.drop_zero]at d1
     simp only[List.length_nil,d1,pairA,List.cons_append,List.nil_append]at E5 hh hl
     by_cases hh1:hasL [] q
     . have hno:¬(risingL l/\distL [left] l):=fun h=>(a2.1 h).2.1 hh1
       simp(disch:=omega)only[wk,tupled,↓reduceIte,reduceEqDiff,reduceEq,reduceAdd,reduceCtorEq,E0,E1,E5,d1,List.drop_zero,hcl,hh,hh1,purify,unownT,lend,unown,AV.hf,hno]
     by_cases hql:q=left
     . have hno:¬(risingL l/\distL [left] l):=fun h=>(a2.1 h).2.2.1 hql
       subst hql
       simp(disch:=omega)only[wk,tupled,↓reduceIte,reduceEqDiff,reduceEq,reduceAdd,reduceCtorEq,E0,E1,E5,d1,List.drop_zero,hcl,hh,hh1,purify,unownT,lend,unown,AV.hf,hno]
     simp(disch:=omega)only[wk,tupled,↓reduceIte,reduceEqDiff,reduceEq,reduceAdd,reduceCtorEq,E0,E1,E5,d1,List.drop_zero,hcl,hh,hh1,hql]
     refine ih ([]++[(k,q)],r) _ _ _ (by simp) ?_
     exact⟨by simp[a1],by rw[a2];simp only[fineF,hrs,hh1,hql,not_false_eq_true,ne_eq,true_and],by simp only[en,↓reduceIte,reduceEqDiff,E0],by simp only[en,↓reduceIte,reduceEqDiff,E1],by simp only[en,↓reduceIte,reduceEqDiff],rfl,rfl⟩
   . simp only[List.concat_eq_append]at*
     have i1:((p'.length:Int)+1-1)=p'.length:=by omega
     have i2:((p'.length:Int)+1).toNat=p'.length+1:=by omega
     have d2:List.drop (p'.length*2) (encs pairA l)=pairA y++encs pairA ((k,q)::r):=by rw[a1,List.append_assoc,List.cons_append,List.nil_append,drop_pre,encs_cons]
     simp only[pairA,List.length_append,List.length_cons,List.length_nil,Nat.zero_add]at d1 d2 hl hh
     by_cases hrs:rises (p'++[y]) (k,q)
     case neg=>
       have hno:¬(risingL l/\distL [left] l):=fun h=>hrs (a2.1 h).1
       have hyk:k<=y.1:=by simpa[rises] using hrs
       simp(disch:=omega)only[wk,tupled,↓reduceIte,reduceEqDiff,reduceEq,reduceAdd,reduceCtorEq,E0,E1,E5,i1,i2,d1,d2,hyk,purify,unownT,lend,unown,AV.hf,hno]
     have hyk:¬k<=y.1:=by simpa[rises] using hrs
     by_cases hh1:hasL (p'++[y]) q
     . have hno:¬(risingL l/\distL [left] l):=fun h=>(a2.1 h).2.1 hh1
       simp(disch:=omega)only[wk,tupled,↓reduceIte,reduceEqDiff,reduceEq,reduceAdd,reduceCtorEq,E0,E1,E5,i1,i2,d1,d2,hyk,hcl,hh,hh1,purify,unownT,lend,unown,AV.hf,hno]
     by_cases hql:q=left
     . have hno:¬(risingL l/\distL [left] l):=fun h=>(a2.1 h).2.2.1 hql
       subst hql
       simp(disch:=omega)only[wk,tupled,↓reduceIte,reduceEqDiff,reduceEq,reduceAdd,reduceCtorEq,E0,E1,E5,i1,i2,d1,d2,hyk,hcl,hh,hh1,purify,unownT,lend,unown,AV.hf,hno]
     simp(disch:=omega)only[wk,tupled,↓reduceIte,reduceEqDiff,reduceEq,reduceAdd,reduceCtorEq,E0,E1,E5,i1,i2,d1,d2,hyk,hcl,hh,hh1,hql]
     refine ih ((p'++[y])++[(k,q)],r) _ _ _ (by simp) ?_
     exact⟨by simp[a1],by rw[a2];simp only[fineF,hrs,hh1,hql,not_false_eq_true,ne_eq,true_and],by simp only[en,↓reduceIte,reduceEqDiff,E0],by simp only[en,↓reduceIte,reduceEqDiff,E1],by simp only[en,↓reduceIte,reduceEqDiff],rfl,rfl⟩
theorem check_yes (left:Int) (ps:List (Int×Int)) (rest:List AV) (tk:Tk) (H:Heap) (hc:hfL rest=true) (hr:right left (2*ps.length)):
   pcx (cbL tab) 102 [.int .u64 left,row ps rest tk] H=some (.plain (.int .i64 (if okL left ps then 0 else 190))):=by
 obtain⟨u1,e1,f1⟩:=lend_sl 1 (2*ps.length) (encs pairA ps++rest) tk
 have hcs:hfL (encs pairA ps++rest)=true:=by rw[hfL_append,hf_pairA,hc];rfl
 have hn:=hr.2.2.2
 have hlen:=rdL_le left ps
 have hraw:=rawL_le ps
 refine pcx_N rfl (pc_wp (fi:=c102) rfl ?_ (by simp[c102]) (by decide) ?_)
 . simp only[pcOn,List.map_cons,List.map_nil,hfL,hf_lend_sl,hf_lend_int,hf_lend_bool,hf_lend_str,hfL_append,Bool.and_self,Bool.and_true,Bool.true_and,c102,row,hcs,hc,hf_pairA]
 unfold c102
 rw[List.map_cons,List.map_cons,List.map_nil,row,e1,lend_int]
 have r1:=fun H=>pcx_N (H:=H) rfl (right_pc left (2*ps.length) (encs pairA ps++rest) u1 (by omega) hcs)
 have r2:=fun H=>refread_px left ps rest u1 H (by omega) hc
 have r3:=fun H=>pcx_N (H:=H) rfl (raw_pc ps rest u1 (by omega) hc)
 obtain⟨s,tk',es,hz,htk⟩:=slvR_form 2 pairA (rdL left ps)
 have r4:=fun H=>fine_px left (rdL left ps) s tk' H (by omega) hz
 rw[es]at r2
 simp only[row]at r2 r3
 by_cases hf:risingL (rdL left ps)/\distL [left] (rdL left ps)
 case neg=>
   have hno:¬okL left ps:=fun h=>hf ⟨h.1,h.2.1⟩
   simp(disch:=omega)only[wk,tupled,↓reduceIte,reduceEqDiff,reduceEq,reduceAdd,reduceCtorEq,r1,hr,r2,r3,r4,hf,hno,purify,unownT,lend,unown,AV.hf]
 by_cases hlr:(rdL left ps).length=rawL ps
 case neg=>
   have hno:¬okL left ps:=fun h=>hlr h.2.2.1
   have hlr':¬((rdL left ps).length:Int)=(rawL ps:Nat):=by omega
   simp(disch:=omega)only[wk,tupled,↓reduceIte,reduceEqDiff,reduceEq,reduceAdd,reduceCtorEq,r1,hr,r2,r3,r4,hf,hlr',hno,purify,unownT,lend,unown,AV.hf]
 simp only[hlr]at r4
 by_cases hlm:(rdL left ps).length<ps.length
 case neg=>
   have hno:¬okL left ps:=fun h=>hlm h.2.2.2.1
   have hlm':((2*ps.length:Nat):Int)/2<=(rawL ps:Int):=by omega
   simp(disch:=omega)only[wk,tupled,↓reduceIte,reduceEqDiff,reduceEq,reduceAdd,reduceCtorEq,r1,hr,r2,r3,r4,hf,hlr,hlm',hno,purify,unownT,lend,unown,AV.hf]
 have hlm':¬((2*ps.length:Nat):Int)/2<=(rawL ps:Int):=by omega
 simp(disch:=omega)only[wk,tupled,↓reduceIte,reduceEqDiff,reduceEq,reduceAdd,reduceCtorEq,r1,hr,r2,r3,r4,hf,hlr,hlm']
 have hup:(rawL ps:Int)=(ps.take (rawL ps)).length:=by rw[List.length_take];omega
 refine loop_ind (fun(x:List (Int×Int)×List (Int×Int)) E df H=>ps=x.1++x.2/\(zeroL (ps.drop (rawL ps))↔zeroL x.2)/\E 1=row ps rest u1/\E 7= .int .i64 (x.1.length:Nat)/\df=[]/\H=[])
   (fun x=>x.2.length) (ps.take (rawL ps),ps.drop (rawL ps)) (by decide) (.inl rfl) ⟨by simp,Iff.rfl,rfl,by simp only[en,↓reduceIte,reduceEqDiff,hup],rfl,rfl⟩ ?_
 intro ⟨pre,suf⟩ E df H ih hP
 obtain⟨a1,a2,E1,E7,hdf,hH⟩:=hP
 dsimp only at a1 a2 E7
 subst hdf hH
 have hl:ps.length=pre.length+suf.length:=by rw[a1,List.length_append]
 cases suf with
 | nil=>
   simp only[List.length_nil]at hl
   have hok:okL left ps:=⟨hf.1,hf.2,hlr,hlm,by rw[hlr];exact a2.2 (fun x hx=>by simp at hx)⟩
   simp(disch:=omega)only[wk,tupled,↓reduceIte,reduceEqDiff,reduceEq,reduceAdd,reduceCtorEq,E1,E7,row,hok,purify,unownT,lend,unown,AV.hf]
 | cons x r=>
   simp only[List.length_cons]at hl
   have d1:=row_ptr pre x r rest
   rw[<-a1]at d1
   by_cases hx:x.2=0
   . simp(disch:=omega)only[wk,tupled,↓reduceIte,reduceEqDiff,reduceEq,reduceAdd,reduceCtorEq,E1,E7,row,d1,hx]
     refine ih (pre++[x],r) _ _ _ (by simp) ?_
     exact⟨by simp[a1],by rw[a2];simp[zeroL,hx],by simp only[en,↓reduceIte,reduceEqDiff,E1,row],by simp only[en,↓reduceIte,reduceEqDiff],rfl,rfl⟩
   . have hno:¬okL left ps:=fun h=>by
       have:=a2.1 (by rw[<-hlr];exact h.2.2.2.2)
       exact hx (this x (List.mem_cons_self ..))
     simp(disch:=omega)only[wk,tupled,↓reduceIte,reduceEqDiff,reduceEq,reduceAdd,reduceCtorEq,E1,E7,row,d1,hx,hno,purify,unownT,lend,unown,AV.hf]
end Go.Proofs.YtogbblcnfcfflaaGreat
namespace Go.Proofs.YtogbblcnfcfflaaGreat
open Go Go.Am Go.Slots Go.Nod Go.Rec
theorem refblock_px (p:Int) (H:Heap):pcx (cbL tab) 61 [.int .u64 p] H=some (.plain (.bool (decide (blockI p)))):=by
 refine pcx_N rfl (pc_wp (fi:=c61) rfl rfl (by simp[c61]) (by decide) ?_)
 unfold c61
 by_cases h1:1<=p
 . by_cases h2:p<=2047
   . have h:blockI p:=⟨h1,by omega⟩
     simp(disch:=omega)only[wk,tupled,↓reduceIte,reduceEqDiff,reduceEq,reduceAdd,reduceCtorEq,lend,unown,h1,h2,h,purify,unownT,lend,unown,AV.hf]
   . have h:¬blockI p:=fun h=>h2 (by have:=h.2;omega)
     simp(disch:=omega)only[wk,tupled,↓reduceIte,reduceEqDiff,reduceEq,reduceAdd,reduceCtorEq,lend,unown,h1,h2,h,purify,unownT,lend,unown,AV.hf]
 . have h:¬blockI p:=fun h=>h1 h.1
   simp(disch:=omega)only[wk,tupled,↓reduceIte,reduceEqDiff,reduceEq,reduceAdd,reduceCtorEq,lend,unown,h1,h,purify,unownT,lend,unown,AV.hf]
def rightN (v p:Int):Prop:=if v=0 then 1<=p/\p<=1099511627776 else blockI p
instance (v p : Int) : Decidable (rightN v p) := by unfold rightN; exact inferInstance
theorem refright_px (v p:Int) (H:Heap):pcx (cbL tab) 87 [.int .i64 v,.int .u64 p] H=some (.plain (.bool (decide (rightN v p)))):=by
 refine pcx_N rfl (pc_wp (fi:=c87) rfl rfl (by simp[c87]) (by decide) ?_)
 unfold c87
 have rb:=refblock_px p
 by_cases hv:v=0
 . by_cases h1:1<=p
   . by_cases h2:p<=1099511627776
     . simp(disch:=omega)only[wk,tupled,↓reduceIte,reduceEqDiff,reduceEq,reduceAdd,reduceCtorEq,lend,unown,hv,h1,h2,rightN,purify,unownT,lend,unown,AV.hf]
     . simp(disch:=omega)only[wk,tupled,↓reduceIte,reduceEqDiff,reduceEq,reduceAdd,reduceCtorEq,lend,unown,hv,h1,h2,rightN,purify,unownT,lend,unown,AV.hf,and_false]
   . simp(disch:=omega)only[wk,tupled,↓reduceIte,reduceEqDiff,reduceEq,reduceAdd,reduceCtorEq,lend,unown,hv,h1,rightN,purify,unownT,lend,unown,AV.hf,false_and]
 . simp(disch:=omega)only[wk,tupled,↓reduceIte,reduceEqDiff,reduceEq,reduceAdd,reduceCtorEq,lend,unown,hv,rb,rightN,purify,unownT,lend,unown,AV.hf]
theorem okf {h:Hd} (k:h.ok):(h.m=nmark->h.f=leafL)/\(h.m≠nmark->blockI h.f):=by
 obtain⟨_,_,_,h4,_⟩:=k
 split at h4
 . rename_i e;exact⟨fun _=>h4,fun ne=>absurd e ne⟩
 . rename_i e;exact⟨fun q=>absurd q e,fun _=>h4⟩
theorem mkok {h:Hd} (h1:nmark<=h.m) (h2:h.m<=nmark+12) (h3:h.s<=2047) (h4:h.m=nmark->h.f=leafL) (h5:h.m≠nmark->blockI h.f) (h6:h.y<=2) (a:h.a=0) (b:h.b=0) (c:h.c=0):h.ok:=by
 refine⟨h1,h2,h3, ?_,h6,a,b,c⟩
 split
 . rename_i e;exact h4 e
 . rename_i e;exact h5 e
theorem refof_words (h:Hd) (hu:h.u) (ps:List (Int×Int)) (hp:ps.length=28) (rest:List AV) (tk:Tk) (H:Heap) (hc:hfL rest=true):
   pcx (cbL tab) 32 [.sl 1 64 (wordsA h ps rest) tk] H=some (.plain (.tup [if h.ok then(ndOf h ps).av else nd0.av,.int .i64 (if h.ok then 0 else 210)])):=by
 have hcs:=hf_words h ps rest hc
 obtain⟨u1,e1,f1⟩:=lend_sl 1 64 (wordsA h ps rest) tk
 refine pcx_N rfl (pc_wp (fi:=c32) rfl ?_ (by simp[c32]) (by decide) ?_)
 . simp only[pcOn,List.map_cons,List.map_nil,hfL,hf_lend_sl,hf_lend_int,hf_lend_bool,hf_lend_str,hfL_append,Bool.and_self,Bool.and_true,Bool.true_and,c32,hcs]
 unfold c32
 rw[List.map_cons,List.map_nil,e1]
 have lw:56<=(encs pairA ps).length+rest.length:=by rw[encs_length (f:=pairA) (k:=2),hp];omega
 have rp:∀f H,pcx (cbL tab) 62 [.int .u64 f,.sl 1 56 (encs pairA ps++rest) .ro] H=some (.plain (.tup [slvR 2 pairA (rdL f ps),slvR 1 intA (atL f 0 ps)])):=fun f H=>by
   have:=refread_px f ps rest .ro H (by omega) hc
   rwa[row,hp]at this
 obtain⟨m,s,l,f,y,a,b,c⟩:=h
 obtain⟨hum,hus,hul,huf,huy⟩:=hu
 dsimp only at hum hus hul huf huy
 simp only[wordsA,Hd.cells,List.cons_append,List.nil_append,ndOf]
 have em:nmark=7522529147838689024:=rfl
 have el:leafL=9223372036854775808:=rfl
 have rb:=refblock_px f
 by_cases h1:7522529147838689024<=m
 case neg=>
   have hn:¬(Hd.mk m s l f y a b c).ok:=fun k=>h1 k.1
   simp(disch:=omega)only[wk,tupled,↓reduceIte,reduceEqDiff,reduceEq,reduceAdd,reduceCtorEq,Int.reduceToNat,Int.reduceAdd,Int.reduceSub,Int.reduceMul,Int.reduceNeg,Nat.reduceSub,Nat.reduceDiv,h1,hn,nd0_av,runG_un,purify,unownT,lend,unown,AV.hf,hfL,Tk.hf]
 by_cases h2:m<=7522529147838689036
 case neg=>
   have hn:¬(Hd.mk m s l f y a b c).ok:=fun k=>h2 k.2.1
   simp(disch:=omega)only[wk,tupled,↓reduceIte,reduceEqDiff,reduceEq,reduceAdd,reduceCtorEq,Int.reduceToNat,Int.reduceAdd,Int.reduceSub,Int.reduceMul,Int.reduceNeg,Nat.reduceSub,Nat.reduceDiv,h1,h2,hn,nd0_av,runG_un,purify,unownT,lend,unown,AV.hf,hfL,Tk.hf]
 by_cases h3:s<=2047
 case neg=>
   have hn:¬(Hd.mk m s l f y a b c).ok:=fun k=>h3 k.2.2.1
   simp(disch:=omega)only[wk,tupled,↓reduceIte,reduceEqDiff,reduceEq,reduceAdd,reduceCtorEq,Int.reduceToNat,Int.reduceAdd,Int.reduceSub,Int.reduceMul,Int.reduceNeg,Nat.reduceSub,Nat.reduceDiv,h1,h2,h3,hn,nd0_av,runG_un,purify,unownT,lend,unown,AV.hf,hfL,Tk.hf]
 by_cases h4:y<=2
 case neg=>
   have hn:¬(Hd.mk m s l f y a b c).ok:=fun k=>h4 k.2.2.2.2.1
   simp(disch:=omega)only[wk,tupled,↓reduceIte,reduceEqDiff,reduceEq,reduceAdd,reduceCtorEq,Int.reduceToNat,Int.reduceAdd,Int.reduceSub,Int.reduceMul,Int.reduceNeg,Nat.reduceSub,Nat.reduceDiv,h1,h2,h3,h4,hn,nd0_av,runG_un,purify,unownT,lend,unown,AV.hf,hfL,Tk.hf]
 by_cases h5:a=0
 case neg=>
   have hn:¬(Hd.mk m s l f y a b c).ok:=fun k=>h5 k.2.2.2.2.2.1
   simp(disch:=omega)only[wk,tupled,↓reduceIte,reduceEqDiff,reduceEq,reduceAdd,reduceCtorEq,Int.reduceToNat,Int.reduceAdd,Int.reduceSub,Int.reduceMul,Int.reduceNeg,Nat.reduceSub,Nat.reduceDiv,h1,h2,h3,h4,h5,hn,nd0_av,runG_un,purify,unownT,lend,unown,AV.hf,hfL,Tk.hf]
 subst h5
 by_cases h6:b=0
 case neg=>
   have hn:¬(Hd.mk m s l f y 0 b c).ok:=fun k=>h6 k.2.2.2.2.2.2.1
   simp(disch:=omega)only[wk,tupled,↓reduceIte,reduceEqDiff,reduceEq,reduceAdd,reduceCtorEq,Int.reduceToNat,Int.reduceAdd,Int.reduceSub,Int.reduceMul,Int.reduceNeg,Nat.reduceSub,Nat.reduceDiv,h1,h2,h3,h4,h6,hn,nd0_av,runG_un,purify,unownT,lend,unown,AV.hf,hfL,Tk.hf]
 subst h6
 by_cases h7:c=0
 case neg=>
   have hn:¬(Hd.mk m s l f y 0 0 c).ok:=fun k=>h7 k.2.2.2.2.2.2.2
   simp(disch:=omega)only[wk,tupled,↓reduceIte,reduceEqDiff,reduceEq,reduceAdd,reduceCtorEq,Int.reduceToNat,Int.reduceAdd,Int.reduceSub,Int.reduceMul,Int.reduceNeg,Nat.reduceSub,Nat.reduceDiv,h1,h2,h3,h4,h7,hn,nd0_av,runG_un,purify,unownT,lend,unown,AV.hf,hfL,Tk.hf]
 subst h7
 have w1:∀k:IntKind,True:=fun _=>trivial
 by_cases hm:m=7522529147838689024
 . subst hm
   by_cases hf:f=9223372036854775808
   . subst hf
     have hok:(Hd.mk 7522529147838689024 s l 9223372036854775808 y 0 0 0).ok:=mkok (Int.le_refl _) (by show(7522529147838689024:Int)<=7522529147838689024+12;decide) h3 (fun _=>rfl) (fun e=>absurd rfl e) h4 rfl rfl rfl
     simp(disch:=omega)only[wk,tupled,↓reduceIte,reduceEqDiff,reduceEq,reduceAdd,reduceCtorEq,Int.reduceToNat,Int.reduceAdd,Int.reduceSub,Int.reduceMul,Int.reduceNeg,Nat.reduceSub,Nat.reduceDiv,h3,h4,hok,em,rp,runG_un]
     simp only[purify,unownT,List.map_cons,List.map_nil,lend,unown_i,slvR_unown,AV.hf,hfL,slvR_hf (f:=pairA) (fun _=>rfl),Nd.av,Nd.cells,Bool.and_self,if_true]
   . have hn:¬(Hd.mk 7522529147838689024 s l f y 0 0 0).ok:=fun k=>hf ((okf k).1 rfl)
     simp(disch:=omega)only[wk,tupled,↓reduceIte,reduceEqDiff,reduceEq,reduceAdd,reduceCtorEq,Int.reduceToNat,Int.reduceAdd,Int.reduceSub,Int.reduceMul,Int.reduceNeg,Nat.reduceSub,Nat.reduceDiv,h3,h4,hf,hn,nd0_av,runG_un,purify,unownT,lend,unown,AV.hf,hfL,Tk.hf]
 . have hv:¬m-7522529147838689024=0:=by omega
   have hv2:m-7522529147838689024>0:=by omega
   by_cases hf:blockI f
   . have hok:(Hd.mk m s l f y 0 0 0).ok:=mkok h1 (by show m<=nmark+12;rw[em];omega) h3 (fun e=>absurd e hm) (fun _=>hf) h4 rfl rfl rfl
     simp only[hf,decide_true]at rb
     simp(disch:=omega)only[wk,tupled,↓reduceIte,reduceEqDiff,reduceEq,reduceAdd,reduceCtorEq,Int.reduceToNat,Int.reduceAdd,Int.reduceSub,Int.reduceMul,Int.reduceNeg,Nat.reduceSub,Nat.reduceDiv,h1,h2,h3,h4,hv,hv2,rb,hok,em,rp,runG_un]
     simp only[purify,unownT,List.map_cons,List.map_nil,lend,unown_i,slvR_unown,AV.hf,hfL,slvR_hf (f:=pairA) (fun _=>rfl),Nd.av,Nd.cells,Bool.and_self,if_true]
   . have hn:¬(Hd.mk m s l f y 0 0 0).ok:=fun k=>hf ((okf k).2 hm)
     simp only[hf,decide_false]at rb
     simp(disch:=omega)only[wk,tupled,↓reduceIte,reduceEqDiff,reduceEq,reduceAdd,reduceCtorEq,Int.reduceToNat,Int.reduceAdd,Int.reduceSub,Int.reduceMul,Int.reduceNeg,Nat.reduceSub,Nat.reduceDiv,h1,h2,h3,h4,hv,hv2,rb,hn,nd0_av,runG_un,purify,unownT,lend,unown,AV.hf,hfL,Tk.hf]
theorem slv_sl (l:List (Int×Int)):∃(z:Nat) (k:Tk),slvR 2 pairA l= .sl z l.length (encs pairA l) k/\(l≠[]->z=2)/\k.hf=true:=by
 unfold slvR
 split
 . rename_i he
   exact⟨0,.z,rfl,fun hne=>absurd (List.isEmpty_iff.1 he) hne,rfl⟩
 . exact⟨2,.ro,rfl,fun _=>rfl,rfl⟩
theorem mayN_ref {v l:Int} (hv:0<=v) (p:Int×Int):mayN v l p↔rightN v p.2/\l<=p.1/\¬(0<v/\p.1=l):=by
 unfold mayN rightN
 by_cases h:v=0
 . simp only[h,if_true];omega
 . simp only[h,if_false]
   constructor
   . rintro ⟨h1,h2⟩;exact⟨h1,by omega,fun k=>by omega⟩
   . rintro ⟨h1,h2,h3⟩;exact⟨h1,by omega⟩
theorem refcheck_words (h:Hd) (hu:h.u) (ps:List (Int×Int)) (hp:ps.length=28) (rest:List AV) (tk:Tk) (H:Heap) (hc:hfL rest=true):
   pcx (cbL tab) 63 [.sl 1 64 (wordsA h ps rest) tk] H=some (.plain (.int .i64 (if h.ok then chkE h ps else 210))):=by
 have hcs:=hf_words h ps rest hc
 obtain⟨u1,e1,f1⟩:=lend_sl 1 64 (wordsA h ps rest) tk
 refine pcx_N rfl (pc_wp (fi:=c63) rfl ?_ (by simp[c63]) (by decide) ?_)
 . simp only[pcOn,List.map_cons,List.map_nil,hfL,hf_lend_sl,hf_lend_int,hf_lend_bool,hf_lend_str,hfL_append,Bool.and_self,Bool.and_true,Bool.true_and,c63,hcs]
 unfold c63
 rw[List.map_cons,List.map_nil,e1]
 have o:=fun H=>refof_words h hu ps hp rest u1 H hc
 by_cases hok:h.ok
 case neg=>
   simp only[hok,if_false,nd0_av]at o
   simp only[hok,if_false]
   simp(disch:=omega)only[wk,tupled,↓reduceIte,reduceEqDiff,reduceEq,reduceAdd,reduceCtorEq,o,purify,unownT,lend,unown,AV.hf,hfL,Tk.hf]
 simp only[hok,if_true]at o ⊢
 have hlen:=rdL_le h.f ps
 have sc:∀H,pcx (cbL tab) 102 [.int .u64 h.f,.sl 1 56 (encs pairA ps++rest) .ro] H=some (.plain (.int .i64 (if okL h.f ps then 0 else 190))):=fun H=>by
   have:=check_yes h.f ps rest .ro H hc (Hd.row hok hp)
   rwa[row,hp]at this
 have lw:56<=(encs pairA ps).length+rest.length:=by rw[encs_length (f:=pairA) (k:=2),hp];omega
 have ew:wordsA h ps rest= .int .u64 h.m:: .int .u64 h.s:: .int .u64 h.l:: .int .u64 h.f:: .int .u64 h.y:: .int .u64 h.a:: .int .u64 h.b:: .int .u64 h.c::(encs pairA ps++rest):=rfl
 have so:=slvR_one (sz:=2) (f:=pairA) (rdL h.f ps)
 obtain⟨z,k,ev,hz,kf⟩:=slv_sl (rdL h.f ps)
 have eNd:(ndOf h ps).av= .agg [.int .i64 (h.m-nmark),.int .i64 h.s,.int .u64 h.l,.int .u64 h.f,.int .i64 h.y,slvR 2 pairA (rdL h.f ps)]:=rfl
 rw[eNd]at o
 rw[ev]at o so
 rw[ew]at o ⊢
 by_cases h1:okL h.f ps
 case neg=>
   have e0:chkE h ps=190:=if_neg (fun k=>h1 k.1)
   simp only[h1,if_false]at sc
   simp only[e0]
   simp(disch:=omega)only[wk,tupled,↓reduceIte,reduceEqDiff,reduceEq,reduceAdd,reduceCtorEq,Int.reduceToNat,Int.reduceAdd,Int.reduceSub,Int.reduceMul,Int.reduceNeg,Nat.reduceSub,Nat.reduceDiv,o,sc,so,runG_un,purify,unownT,lend,unown,AV.hf,hfL,Tk.hf]
 simp only[h1,if_true]at sc
 have hv:0<=h.m-nmark:=by have:=hok.1;omega
 have ce:chkE h ps=if mayAll (h.m-nmark) h.l (rdL h.f ps)then 0 else 190:=by simp[chkE,h1]
 generalize chkE h ps=C at ce ⊢
 generalize rdL h.f ps=R at*
 simp(disch:=omega)only[wk,tupled,↓reduceIte,reduceEqDiff,reduceEq,reduceAdd,reduceCtorEq,Int.reduceToNat,Int.reduceAdd,Int.reduceSub,Int.reduceMul,Int.reduceNeg,Nat.reduceSub,Nat.reduceDiv,o,sc,so]
 refine loop_ind (fun(x:List (Int×Int)×List (Int×Int)) E df H1=>R=x.1++x.2/\(mayAll (h.m-nmark) h.l R↔mayAll (h.m-nmark) h.l x.2)/\E 3= .ptr 0 0/\E 5= .int .i64 (x.1.length:Nat)/\df=[]∧
     H1[0]? =some (.cells [.int .i64 (h.m-nmark),.int .i64 h.s,.int .u64 h.l,.int .u64 h.f,.int .i64 h.y,.sl z R.length (encs pairA R) k])) (fun x=>x.2.length) ([],R) (by decide) (.inl rfl) ⟨rfl,Iff.rfl,rfl,rfl,rfl,rfl⟩ ?_
 intro ⟨pre,suf⟩ E df H1 ih hP
 obtain⟨a1,a2,E3,E5,hdf,hh⟩:=hP
 dsimp only at a1 a2 E5
 subst hdf
 have hRl:R.length=pre.length+suf.length:=by rw[a1,List.length_append]
 cases suf with
 | nil=>
   simp only[List.length_nil,Nat.add_zero]at hRl
   have m0:mayAll (h.m-nmark) h.l R:=by rw[a2];simp[mayAll]
   rw[if_pos m0]at ce
   rw[hRl]at hh
   simp(disch:=omega)only[wk,tupled,↓reduceIte,reduceEqDiff,reduceEq,reduceAdd,reduceCtorEq,E3,E5,hh,ce,purify,unownT,lend,unown,AV.hf]
 | cons x r=>
   simp only[List.length_cons]at hRl
   obtain rfl:=hz (by rw[a1];simp)
   obtain⟨kk,q⟩:=x
   have dr:List.drop (pre.length*2) (encs pairA R)= .int .u64 kk:: .int .u64 q::encs pairA r:=by rw[a1,drop_pre,encs_cons];rfl
   have e1':∀o:AObj,(H1++[o])[H1.length]? =some o:=fun o=>by simp
   have e0':∀o:AObj,(H1++[o])[0]? =H1[0]? :=fun o=>List.getElem?_append_left (by have:=(List.getElem?_eq_some_iff.1 hh).1;exact this)
   have e2':∀o q:AObj,(H1++[o]).set H1.length q=H1++[q]:=fun o q=>by simp
   have a3:mayAll (h.m-nmark) h.l ((kk,q)::r)↔mayN (h.m-nmark) h.l (kk,q)/\mayAll (h.m-nmark) h.l r:=by simp[mayAll]
   have mr:=mayN_ref (l:=h.l) hv (kk,q)
   have rr:=refright_px (h.m-nmark) q
   dsimp only at mr
   simp only[a2,a3,mr]at ce
   by_cases g1:rightN (h.m-nmark) q
   case neg=>
     have c9:C=190:=by rw[ce,if_neg (fun t=>g1 t.1.1)]
     simp only[g1,decide_false]at rr
     simp(disch:=omega)only[wk,tupled,↓reduceIte,reduceEqDiff,reduceEq,reduceAdd,reduceCtorEq,E3,E5,hh,dr,e0',e1',e2',rr,runG_un,c9,purify,unownT,lend,unown,AV.hf]
   simp only[g1,decide_true]at rr
   by_cases g2:kk<h.l
   . have c9:C=190:=by rw[ce,if_neg (fun t=>by have:=t.1.2.1;omega)]
     simp(disch:=omega)only[wk,tupled,↓reduceIte,reduceEqDiff,reduceEq,reduceAdd,reduceCtorEq,E3,E5,hh,dr,e0',e1',e2',rr,g2,runG_un,c9,purify,unownT,lend,unown,AV.hf]
   by_cases g3:h.m-nmark>0
   . by_cases g4:kk=h.l
     . have c9:C=190:=by rw[ce,if_neg (fun t=>t.1.2.2 ⟨g3,g4⟩)]
       simp(disch:=omega)only[wk,tupled,↓reduceIte,reduceEqDiff,reduceEq,reduceAdd,reduceCtorEq,E3,E5,hh,dr,e0',e1',e2',rr,g2,g3,g4,runG_un,c9,purify,unownT,lend,unown,AV.hf]
       done
     . simp(disch:=omega)only[wk,tupled,↓reduceIte,reduceEqDiff,reduceEq,reduceAdd,reduceCtorEq,E3,E5,hh,dr,e0',e1',e2',rr,g2,g3,g4,runG_un]
       refine ih (pre++[(kk,q)],r) _ _ _ (by simp) ?_
       exact⟨by rw[a1];simp,by rw[a2,a3,mr];exact⟨fun t=>t.2,fun t=>⟨⟨g1,by omega,fun w=>g4 w.2⟩,t⟩⟩,by simp only[en,↓reduceIte,reduceEqDiff,E3],by simp only[en,↓reduceIte,reduceEqDiff],rfl,by rw[e0',hh]⟩
   . simp(disch:=omega)only[wk,tupled,↓reduceIte,reduceEqDiff,reduceEq,reduceAdd,reduceCtorEq,E3,E5,hh,dr,e0',e1',e2',rr,g2,g3,runG_un]
     refine ih (pre++[(kk,q)],r) _ _ _ (by simp) ?_
     exact⟨by rw[a1];simp,by rw[a2,a3,mr];exact⟨fun t=>t.2,fun t=>⟨⟨g1,by omega,fun w=>g3 w.1⟩,t⟩⟩,by simp only[en,↓reduceIte,reduceEqDiff,E3],by simp only[en,↓reduceIte,reduceEqDiff],rfl,by rw[e0',hh]⟩
def childL (key at_:Int):List (Int×Int)->Int
 |[]=>at_
 |x::r=>if x.1<=key then childL key x.2 r else childL key at_ r
def childR (h:Hd) (ps:List (Int×Int)) (key:Int):AV:=
 if h.ok then(if chkE h ps=0 then(if h.m=nmark then .tup [.int .i64 0,.int .i64 2] else .tup [.int .i64 (childL key h.f (rdL h.f ps)),.int .i64 0])else .tup [.int .i64 0,.int .i64 190])else .tup [.int .i64 0,.int .i64 210]
theorem chk_two (h:Hd) (ps:List (Int×Int)) (k:chkE h ps≠0):chkE h ps=190:=by
 unfold chkE at*
 split
 . rename_i g;rw[if_pos g]at k;exact absurd rfl k
 . rfl
theorem childL_small {lv lo:Int} (hv:lv≠0) (key:Int):∀(l:List (Int×Int)) (a:Int),blockI a->mayAll lv lo l->blockI (childL key a l)
 |[],a,ha,_=>ha
 | x::r,a,ha,h=>by
   have h1:mayN lv lo x:=h x (List.mem_cons_self ..)
   have h2:mayAll lv lo r:=fun p hp=>h p (List.mem_cons_of_mem _ hp)
   unfold mayN at h1
   rw[if_neg hv]at h1
   rw[childL]
   split
   . exact childL_small hv key r _ h1.1 h2
   . exact childL_small hv key r _ ha h2
theorem child_words (h:Hd) (hu:h.u) (ps:List (Int×Int)) (hp:ps.length=28) (rest:List AV) (tk:Tk) (key:Int) (H:Heap) (hc:hfL rest=true):
   pcx (cbL tab) 60 [.sl 1 64 (wordsA h ps rest) tk,.int .u64 key] H=some (.plain (childR h ps key)):=by
 have hcs:=hf_words h ps rest hc
 obtain⟨u1,e1,f1⟩:=lend_sl 1 64 (wordsA h ps rest) tk
 refine pcx_N rfl (pc_wp (fi:=c60) rfl ?_ (by simp[c60]) (by decide) ?_)
 . simp only[pcOn,List.map_cons,List.map_nil,hfL,hf_lend_sl,hf_lend_int,hf_lend_bool,hf_lend_str,hfL_append,Bool.and_self,Bool.and_true,Bool.true_and,c60,hcs]
 unfold c60
 rw[List.map_cons,List.map_cons,List.map_nil,e1]
 have o:=fun H=>settled_words h hu ps hp rest u1 H hc
 by_cases hok:h.ok
 case neg=>
   simp only[hok,if_false,nd0_av,false_and]at o
   simp only[hok,childR,if_false]
   simp(disch:=omega)only[wk,tupled,↓reduceIte,reduceEqDiff,reduceEq,reduceAdd,reduceCtorEq,lend_int,o,purify,unownT,lend,unown,AV.hf,hfL,Tk.hf]
 by_cases hk:chkE h ps=0
 case neg=>
   simp only[hok,hk,chk_two h ps hk,if_false,if_true,nd0_av,true_and]at o
   simp only[hok,hk,childR,if_true,if_false]
   simp(disch:=omega)only[wk,tupled,↓reduceIte,reduceEqDiff,reduceEq,reduceAdd,reduceCtorEq,lend_int,o,purify,unownT,lend,unown,AV.hf,hfL,Tk.hf]
 simp only[hok,hk,if_true,and_self]at o
 simp only[hok,hk,childR,if_true]
 have so:=slvR_one (sz:=2) (f:=pairA) (rdL h.f ps)
 obtain⟨z,k,ev,hz,kf⟩:=slv_sl (rdL h.f ps)
 have eN:(ndOf h ps).av= .agg [.int .i64 (h.m-nmark),.int .i64 h.s,.int .u64 h.l,.int .u64 h.f,.int .i64 h.y,slvR 2 pairA (rdL h.f ps)]:=rfl
 rw[eN]at o
 rw[ev]at o so
 have hlen:=rdL_le h.f ps
 by_cases hm:h.m=nmark
 . have hm0:h.m-nmark=0:=by omega
   simp only[hm,if_true]
   rw[hm]at o
   simp(disch:=omega)only[wk,tupled,↓reduceIte,reduceEqDiff,reduceEq,reduceAdd,reduceCtorEq,lend_int,o,so,Int.sub_self,purify,unownT,lend,unown,AV.hf,hfL,Tk.hf]
 have hm0:¬h.m-nmark=0:=by omega
 simp only[hm,if_false]
 have hma:mayAll (h.m-nmark) h.l (rdL h.f ps):=by
   apply Classical.byContradiction
   intro g
   unfold chkE at hk
   rw[if_neg (fun t=>g t.2)]at hk
   cases hk
 have sm:=childL_small hm0 key (rdL h.f ps) h.f ((okf hok).2 hm) hma
 generalize rdL h.f ps=R at*
 simp(disch:=omega)only[wk,tupled,↓reduceIte,reduceEqDiff,reduceEq,reduceAdd,reduceCtorEq,lend_int,o,so,hm0]
 refine loop_ind (fun(x:List (Int×Int)×List (Int×Int)×Int) E df H1=>R=x.1++x.2.1/\childL key h.f R=childL key x.2.2 x.2.1/\E 1= .int .u64 key/\E 8= .int .u64 x.2.2/\E 30= .sl z R.length (encs pairA R) k/\E 31= .int .i64 (R.length:Nat)/\E 32= .int .i64 (x.1.length:Nat)/\df=[]) (fun x=>x.2.1.length) ([],R,h.f) (by decide) (.inl rfl) ⟨rfl,rfl,rfl,rfl,rfl,rfl,rfl,rfl⟩ ?_
 intro ⟨pre,suf,at_⟩ E df H1 ih hP
 obtain⟨a1,a2,E1,E8,E30,E31,E32,hdf⟩:=hP
 dsimp only at a1 a2 E8 E32
 subst hdf
 have hRl:R.length=pre.length+suf.length:=by rw[a1,List.length_append]
 cases suf with
 | nil=>
   simp only[List.length_nil,Nat.add_zero]at hRl
   rw[childL]at a2
   rw[a2]at sm ⊢
   obtain⟨b1,b2⟩:=sm
   rw[hRl]at E31
   simp(disch:=omega)only[wk,tupled,↓reduceIte,reduceEqDiff,reduceEq,reduceAdd,reduceCtorEq,E1,E8,E30,E31,E32,purify,unownT,lend,unown,AV.hf,hfL]
 | cons x r=>
   simp only[List.length_cons]at hRl
   obtain rfl:=hz (by rw[a1];simp)
   obtain⟨kk,q⟩:=x
   have dr:List.drop (pre.length*2) (encs pairA R)= .int .u64 kk:: .int .u64 q::encs pairA r:=by rw[a1,drop_pre,encs_cons];rfl
   have e1':∀o:AObj,(H1++[o])[H1.length]? =some o:=fun o=>by simp
   have e2':∀o q:AObj,(H1++[o]).set H1.length q=H1++[q]:=fun o q=>by simp
   rw[childL]at a2
   by_cases g:kk<=key
   . rw[if_pos g]at a2
     simp(disch:=omega)only[wk,tupled,↓reduceIte,reduceEqDiff,reduceEq,reduceAdd,reduceCtorEq,E1,E8,E30,E31,E32,dr,e1',e2',g]
     refine ih (pre++[(kk,q)],r,q) _ _ _ (by simp) ?_
     exact⟨by rw[a1];simp,a2,by simp only[en,↓reduceIte,reduceEqDiff,E1],by simp only[en,↓reduceIte,reduceEqDiff],by simp only[en,↓reduceIte,reduceEqDiff,E30],by simp only[en,↓reduceIte,reduceEqDiff,E31],by simp only[en,↓reduceIte,reduceEqDiff],rfl⟩
   . rw[if_neg g]at a2
     simp(disch:=omega)only[wk,tupled,↓reduceIte,reduceEqDiff,reduceEq,reduceAdd,reduceCtorEq,E1,E8,E30,E31,E32,dr,e1',e2',g]
     refine ih (pre++[(kk,q)],r,at_) _ _ _ (by simp) ?_
     exact⟨by rw[a1];simp,a2,by simp only[en,↓reduceIte,reduceEqDiff,E1],by simp only[en,↓reduceIte,reduceEqDiff,E8],by simp only[en,↓reduceIte,reduceEqDiff,E30],by simp only[en,↓reduceIte,reduceEqDiff,E31],by simp only[en,↓reduceIte,reduceEqDiff],rfl⟩
theorem refchild_words (h:Hd) (hu:h.u) (ps:List (Int×Int)) (hp:ps.length=28) (rest:List AV) (tk:Tk) (key:Int) (H:Heap) (hc:hfL rest=true):
   pcx (cbL tab) 34 [.sl 1 64 (wordsA h ps rest) tk,.int .u64 key] H=some (.plain (childR h ps key)):=by
 have hcs:=hf_words h ps rest hc
 obtain⟨u1,e1,f1⟩:=lend_sl 1 64 (wordsA h ps rest) tk
 refine pcx_N rfl (pc_wp (fi:=c34) rfl ?_ (by simp[c34]) (by decide) ?_)
 . simp only[pcOn,List.map_cons,List.map_nil,hfL,hf_lend_sl,hf_lend_int,hf_lend_bool,hf_lend_str,hfL_append,Bool.and_self,Bool.and_true,Bool.true_and,c34,hcs]
 unfold c34
 rw[List.map_cons,List.map_cons,List.map_nil,e1]
 have o:=fun H=>refcheck_words h hu ps hp rest u1 H hc
 have o2:=fun H=>refof_words h hu ps hp rest u1 H hc
 by_cases hok:h.ok
 case neg=>
   simp only[hok,if_false]at o
   simp only[hok,childR,if_false]
   simp(disch:=omega)only[wk,tupled,↓reduceIte,reduceEqDiff,reduceEq,reduceAdd,reduceCtorEq,lend_int,o,purify,unownT,lend,unown,AV.hf,hfL,Tk.hf]
 by_cases hk:chkE h ps=0
 case neg=>
   simp only[hok,chk_two h ps hk,if_true]at o
   simp only[hok,hk,childR,if_true,if_false]
   simp(disch:=omega)only[wk,tupled,↓reduceIte,reduceEqDiff,reduceEq,reduceAdd,reduceCtorEq,lend_int,o,purify,unownT,lend,unown,AV.hf,hfL,Tk.hf]
 simp only[hok,hk,if_true]at o o2
 simp only[hok,hk,childR,if_true]
 have so:=slvR_one (sz:=2) (f:=pairA) (rdL h.f ps)
 obtain⟨z,k,ev,hz,kf⟩:=slv_sl (rdL h.f ps)
 have eN:(ndOf h ps).av= .agg [.int .i64 (h.m-nmark),.int .i64 h.s,.int .u64 h.l,.int .u64 h.f,.int .i64 h.y,slvR 2 pairA (rdL h.f ps)]:=rfl
 rw[eN]at o2
 rw[ev]at o2 so
 have hlen:=rdL_le h.f ps
 by_cases hm:h.m=nmark
 . simp only[hm,if_true]
   rw[hm]at o2
   simp(disch:=omega)only[wk,tupled,↓reduceIte,reduceEqDiff,reduceEq,reduceAdd,reduceCtorEq,lend_int,o,o2,so,Int.sub_self,purify,unownT,lend,unown,AV.hf,hfL,Tk.hf]
 have hm0:¬h.m-nmark=0:=by omega
 simp only[hm,if_false]
 have hma:mayAll (h.m-nmark) h.l (rdL h.f ps):=by
   apply Classical.byContradiction
   intro g
   unfold chkE at hk
   rw[if_neg (fun t=>g t.2)]at hk
   cases hk
 have sm:=childL_small hm0 key (rdL h.f ps) h.f ((okf hok).2 hm) hma
 generalize rdL h.f ps=R at*
 simp(disch:=omega)only[wk,tupled,↓reduceIte,reduceEqDiff,reduceEq,reduceAdd,reduceCtorEq,lend_int,o,o2,so,hm0]
 refine loop_ind (fun(x:List (Int×Int)×List (Int×Int)×Int) E df H1=>R=x.1++x.2.1/\childL key h.f R=childL key x.2.2 x.2.1/\E 1= .int .u64 key/\E 9= .int .u64 x.2.2/\E 7= .ptr 0 0/\E 10= .int .i64 (x.1.length:Nat)/\df=[]/\H1=[.cells [.int .i64 (h.m-nmark),.int .i64 h.s,.int .u64 h.l,.int .u64 h.f,.int .i64 h.y,.sl z R.length (encs pairA R) k]]) (fun x=>x.2.1.length) ([],R,h.f) (by decide) (.inl rfl) ⟨rfl,rfl,rfl,rfl,rfl,rfl,rfl,rfl⟩ ?_
 intro ⟨pre,suf,at_⟩ E df H1 ih hP
 obtain⟨a1,a2,E1,E9,E7,E10,hdf,hh⟩:=hP
 dsimp only at a1 a2 E9 E10
 subst hdf hh
 have hRl:R.length=pre.length+suf.length:=by rw[a1,List.length_append]
 cases suf with
 | nil=>
   simp only[List.length_nil,Nat.add_zero]at hRl
   rw[childL]at a2
   rw[a2]at sm ⊢
   obtain⟨b1,b2⟩:=sm
   have nl:¬(pre.length:Int)<R.length:=by omega
   simp(disch:=omega)only[wk,tupled,↓reduceIte,reduceEqDiff,reduceEq,reduceAdd,reduceCtorEq,E1,E9,E7,E10,nl,purify,unownT,lend,unown,AV.hf,hfL]
 | cons x r=>
   simp only[List.length_cons]at hRl
   obtain rfl:=hz (by rw[a1];simp)
   obtain⟨kk,q⟩:=x
   have dr:List.drop (pre.length*2) (encs pairA R)= .int .u64 kk:: .int .u64 q::encs pairA r:=by rw[a1,drop_pre,encs_cons];rfl
   rw[childL]at a2
   by_cases g:kk<=key
   . rw[if_pos g]at a2
     simp(disch:=omega)only[wk,tupled,↓reduceIte,reduceEqDiff,reduceEq,reduceAdd,reduceCtorEq,E1,E9,E7,E10,dr,g]
     refine ih (pre++[(kk,q)],r,q) _ _ _ (by simp) ?_
     exact⟨by rw[a1];simp,a2,by simp only[en,↓reduceIte,reduceEqDiff,E1],by simp only[en,↓reduceIte,reduceEqDiff],by simp only[en,↓reduceIte,reduceEqDiff,E7],by simp only[en,↓reduceIte,reduceEqDiff],rfl,rfl⟩
   . rw[if_neg g]at a2
     simp(disch:=omega)only[wk,tupled,↓reduceIte,reduceEqDiff,reduceEq,reduceAdd,reduceCtorEq,E1,E9,E7,E10,dr,g]
     refine ih (pre++[(kk,q)],r,at_) _ _ _ (by simp) ?_
     exact⟨by rw[a1];simp,a2,by simp only[en,↓reduceIte,reduceEqDiff,E1],by simp only[en,↓reduceIte,reduceEqDiff,E9],by simp only[en,↓reduceIte,reduceEqDiff,E7],by simp only[en,↓reduceIte,reduceEqDiff],rfl,rfl⟩
def riseM:List (Int×Int)->List (Int×Int)->Prop
 |_,[]=>True
 |pre,x::r=>(1<=x.2/\x.2<=1099511627776)/\(∀y,pre.getLast? =some y->y.1<x.1)/\x.2∉pre.map (·.2)/\riseM (pre++[x]) r
theorem rising_yes (p:List (Int×Int)) (s:Nat) (tk:Tk) (htk:unown (.sl s p.length (encs pairA p) tk)= .sl s p.length (encs pairA p) tk) (hf:tk.hf=true) (hz:p≠[]->s=2) (hl:p.length<=1000) (h:riseM [] p) (H:Heap):
   pcx (cbL tab) 50 [.sl s p.length (encs pairA p) tk] H=some (.plain (.bool true)):=by
 have hc:=hf_pairA p
 have e1:lend (.sl s p.length (encs pairA p) tk)= .sl s p.length (encs pairA p) tk:=htk
 refine pcx_N rfl (pc_wp (fi:=c50) rfl ?_ (by simp[c50]) (by decide) ?_)
 . simp only[pcOn,c50,List.map_cons,List.map_nil,e1];simp[hfL,AV.hf,hc,hf]
 unfold c50
 rw[List.map_cons,List.map_nil,e1]
 simp(disch:=omega)only[wk,tupled,↓reduceIte,reduceEqDiff,reduceEq,reduceAdd,reduceCtorEq,cellEq,findA]
 refine loop_ind (fun(x:List (Int×Int)×List (Int×Int)) E df H=>p=x.1++x.2/\riseM x.1 x.2/\E 0= .sl s p.length (encs pairA p) tk/\E 3= .mp 0/\E 4= .int .i64 (x.1.length:Nat)/\df=[]/\H[0]? =some (.map (seenE (x.1.map (·.2)))))
   (fun x=>x.2.length) ([],p) (by decide) (.inl rfl) ⟨rfl,h,by simp only[en,↓reduceIte,reduceEqDiff],by simp only[en,↓reduceIte,reduceEqDiff],by simp only[en,↓reduceIte,reduceEqDiff];rfl,rfl,rfl⟩ ?_
 intro ⟨pre,suf⟩ E df H ih hP
 obtain⟨a1,a2,E0,E3,E4,hdf,hH⟩:=hP
 dsimp only at a1 a2 E4 hH
 subst hdf
 have hll:p.length=pre.length+suf.length:=by rw[a1,List.length_append]
 cases suf with
 | nil=>
   simp only[List.length_nil,Nat.add_zero]at hll
   simp(disch:=omega)only[wk,tupled,↓reduceIte,reduceEqDiff,reduceEq,reduceAdd,reduceCtorEq,E0,E3,E4,purify,unownT,lend,unown,AV.hf]
   done
 | cons x r=>
   simp only[List.length_cons]at hll
   obtain rfl:=hz (by rw[a1];simp)
   obtain⟨b1,b2,b3,b4⟩:=a2
   have dd:List.drop (pre.length*2) (encs pairA p)= .int .u64 x.1:: .int .u64 x.2::encs pairA r:=by rw[a1,drop_pre,encs_cons];rfl
   have hj:=findA_seen x.2 _ 0 b3
   have rp:=fun H=>refright_px 0 x.2 H
   have hd:rightN 0 x.2:=by unfold rightN;rw[if_pos rfl];exact b1
   simp only[hd,decide_true]at rp
   have hx:x.2∉pre.map (·.2):=b3
   have se:seenE (pre.map (·.2))++[(AV.int .u64 x.2,AV.int .i64 1)]=seenE ((pre++[x]).map (·.2)):=by simp[seenE]
   rcases List.eq_nil_or_concat pre with rfl|⟨q,y,rfl⟩
   . have ec:encs pairA p= .int .u64 x.1:: .int .u64 x.2::encs pairA r:=by rw[a1,List.nil_append,encs_cons];rfl
     rw[ec]at E0
     simp only[List.map_nil]at hj hH
     simp(disch:=omega)only[wk,tupled,↓reduceIte,reduceEqDiff,reduceEq,reduceAdd,reduceCtorEq,E0,E3,E4,rp,hH,hj,cellEq,runG_un]
     refine ih ([x],r) _ _ _ (by simp) ?_
     exact⟨by simp[a1],b4,by simp only[en,↓reduceIte,reduceEqDiff,E0,ec],by simp only[en,↓reduceIte,reduceEqDiff,E3],by simp only[en,↓reduceIte,reduceEqDiff],rfl,by rw[List.getElem?_set_self (List.getElem?_eq_some_iff.1 hH).1];rfl⟩
   . rw[List.concat_eq_append]at*
     have ln:(((q++[y]).length:Nat):Int)=(q.length:Nat)+1:=by simp
     have hk:=b2 y (by simp)
     have hk':¬x.1<=y.1:=by omega
     have d2:List.drop (q.length*2) (encs pairA p)= .int .u64 y.1:: .int .u64 y.2::encs pairA (x::r):=by rw[a1,List.append_assoc,drop_pre];rfl
     have l1:(q++[y]).length=q.length+1:=by simp
     rw[ln]at E4
     rw[l1]at dd hll
     have t1:((q.length:Int)+1).toNat=q.length+1:=by omega
     have t2:((q.length:Int)+1-1)=q.length:=by omega
     simp(disch:=omega)only[wk,tupled,↓reduceIte,reduceEqDiff,reduceEq,reduceAdd,reduceCtorEq,E0,E3,E4,t1,t2,dd,d2,rp,hH,hj,hk',cellEq,runG_un]
     refine ih (q++[y]++[x],r) _ _ _ (by simp) ?_
     exact⟨by simp[a1],b4,by simp only[en,↓reduceIte,reduceEqDiff,E0],by simp only[en,↓reduceIte,reduceEqDiff,E3],by simp only[en,↓reduceIte,reduceEqDiff],rfl,by rw[List.getElem?_set_self (List.getElem?_eq_some_iff.1 hH).1,se]⟩
def fillP (ps:List (Int×Int)):List (Int×Int):=ps++List.replicate (28-ps.length) (0,0)
theorem fillP_len {ps:List (Int×Int)} (h:ps.length<=28):(fillP ps).length=28:=by simp[fillP];omega
def hdN (v s l f y:Int):Hd:=⟨nmark+v,s,l,f,y,0,0,0⟩
def ndC (v s l f y:Int) (q:AV):List AV:=[.int .i64 v,.int .i64 s,.int .u64 l,.int .u64 f,.int .i64 y,q]
theorem z64:repL 64 [.int .u64 0]= .int .u64 0:: .int .u64 0:: .int .u64 0:: .int .u64 0:: .int .u64 0:: .int .u64 0:: .int .u64 0:: .int .u64 0::encs pairA (List.replicate 28 (0,0)):=rfl
theorem mk64:madeN 1 8 [.int .u64 0] (.int .i64 64) (.int .i64 64)=some 64:=rfl
def layW (h:List AV) (pre suf:List (Int×Int)):List AV:=h++encs pairA (pre++suf)
theorem layW_key {h:List AV} (hh:h.length=8) (pre:List (Int×Int)) (x:Int×Int) (r:List (Int×Int)) (k:Int):
   List.take (8+2*pre.length) (layW h pre (x::r))++[.int .u64 k]++List.drop (8+2*pre.length+1) (layW h pre (x::r))=layW h pre ((k,x.2)::r):=by
 have e1:layW h pre (x::r)=(h++encs pairA pre)++(.int .u64 x.1:: .int .u64 x.2::encs pairA r):=by rw[layW,encs_append,encs_cons,List.append_assoc];rfl
 have e2:(h++encs pairA pre).length=8+2*pre.length:=by rw[List.length_append,hh,encs_length (f:=pairA) (k:=2)];omega
 rw[e1,List.take_left' e2,List.drop_append,e2,List.drop_of_length_le (by omega)]
 rw[layW,encs_append,encs_cons,show 8+2*pre.length+1-(8+2*pre.length)=1 by omega]
 simp[pairA]
theorem layW_ptr {h:List AV} (hh:h.length=8) (pre:List (Int×Int)) (x:Int×Int) (r:List (Int×Int)) (k:Int):
   List.take (8+2*pre.length+1) (layW h pre (x::r))++[.int .u64 k]++List.drop (8+2*pre.length+1+1) (layW h pre (x::r))=layW h pre ((x.1,k)::r):=by
 have e1:layW h pre (x::r)=(h++encs pairA pre++[.int .u64 x.1])++(.int .u64 x.2::encs pairA r):=by rw[layW,encs_append,encs_cons,List.append_assoc,List.append_assoc];rfl
 have e2:(h++encs pairA pre++[AV.int .u64 x.1]).length=8+2*pre.length+1:=by rw[List.length_append,List.length_append,hh,encs_length (f:=pairA) (k:=2),List.length_singleton];omega
 rw[e1,List.take_left' e2,List.drop_append,e2,List.drop_of_length_le (by omega)]
 rw[layW,encs_append,encs_cons,show 8+2*pre.length+1+1-(8+2*pre.length+1)=1 by omega]
 simp[pairA]
theorem refwords_px (v s l f y:Int) (ps:List (Int×Int)) (z:Nat) (tk:Tk) (hz:ps≠[]->z=2) (hk:tk.hf=true) (hl:ps.length<=28) (hv:0<=v/\v<=12) (hs:0<=s/\s<=2047) (hy:0<=y/\y<=2) (a:AV) (ha:lend a= .agg (ndC v s l f y (.sl z ps.length (encs pairA ps) tk))) (H:Heap):
   pcx (cbL tab) 53 [a] H=some (.plain (.sl 1 64 (wordsA (hdN v s l f y) (fillP ps) []) .ro)):=by
 have hc:=hf_pairA ps
 refine pcx_N rfl (pc_wp (fi:=c53) rfl ?_ (by simp[c53]) (by decide) ?_)
 . simp only[pcOn,c53,List.map_cons,List.map_nil,ha,ndC];simp[hfL,AV.hf,hc,hk]
 unfold c53
 rw[List.map_cons,List.map_nil,ha,ndC]
 have le28:(encs pairA (List.replicate 28 ((0:Int),(0:Int)))).length=56:=by rw[encs_length (f:=pairA) (k:=2)];simp
 simp(disch:=omega)only[wk,tupled,↓reduceIte,reduceEqDiff,reduceEq,reduceAdd,reduceCtorEq,mk64,z64]
 generalize hZ:encs pairA (List.replicate 28 ((0:Int),(0:Int)))=Z at*
 have fv:∀a b c d e,floatV [.eptr a,.eptr b,.eptr c,.eptr d] [e]=true:=fun _ _ _ _ _=>rfl
 simp(disch:=omega)only[wk,tupled,↓reduceIte,reduceEqDiff,reduceEq,reduceAdd,reduceCtorEq,Int.reduceToNat,Int.reduceAdd,Int.reduceSub,Int.reduceMul,Int.reduceNeg,Nat.reduceSub,Nat.reduceDiv,le28,fv]
 have hh8:[AV.int .u64 (7522529147838689024+v),.int .u64 s,.int .u64 l,.int .u64 f,.int .u64 y,.int .u64 0,.int .u64 0,.int .u64 0].length=8:=rfl
 have hhd:hfL [AV.int .u64 (7522529147838689024+v),.int .u64 s,.int .u64 l,.int .u64 f,.int .u64 y,.int .u64 0,.int .u64 0,.int .u64 0]=true:=rfl
 have fin:wordsA (hdN v s l f y) (fillP ps) []=layW [AV.int .u64 (7522529147838689024+v),.int .u64 s,.int .u64 l,.int .u64 f,.int .u64 y,.int .u64 0,.int .u64 0,.int .u64 0] ps (List.replicate (28-ps.length) (0,0)):=by
   rw[wordsA,layW,List.append_nil];rfl
 have ini:[AV.int .u64 (7522529147838689024+v),.int .u64 s,.int .u64 l,.int .u64 f,.int .u64 y,.int .u64 0,.int .u64 0,.int .u64 0]++Z=layW [AV.int .u64 (7522529147838689024+v),.int .u64 s,.int .u64 l,.int .u64 f,.int .u64 y,.int .u64 0,.int .u64 0,.int .u64 0] [] (List.replicate (28-0) (0,0)):=by
   rw[layW,<-hZ];rfl
 rw[fin]
 simp only[List.cons_append,List.nil_append]at ini
 rw[ini]
 generalize [AV.int .u64 (7522529147838689024+v),.int .u64 s,.int .u64 l,.int .u64 f,.int .u64 y,.int .u64 0,.int .u64 0,.int .u64 0]=hd at*
 refine loop_ind (fun(x:List (Int×Int)×List (Int×Int)) E df H1=>ps=x.1++x.2/\E 1= .eptr [.int .i64 v,.int .i64 s,.int .u64 l,.int .u64 f,.int .i64 y,.sl z ps.length (encs pairA ps) tk]/\E 3= .msl 1 0 0 64/\E 4= .int .i64 (x.1.length:Nat)/\df=[]/\H1=[.cells (layW hd x.1 (List.replicate (28-x.1.length) (0,0)))]) (fun x=>x.2.length) ([],ps) (by decide) (.inl rfl) ⟨rfl,rfl,rfl,rfl,rfl,rfl⟩ ?_
 intro ⟨pre,suf⟩ E df H1 ih hP
 obtain⟨a1,E1,E3,E4,hdf,hh⟩:=hP
 dsimp only at a1 E4 hh
 subst hdf hh
 have hRl:ps.length=pre.length+suf.length:=by rw[a1,List.length_append]
 cases suf with
 | nil=>
   simp only[List.length_nil,Nat.add_zero]at hRl
   rw[List.append_nil]at a1
   have nl:¬(pre.length:Int)<ps.length:=by omega
   have hhf:hfL (layW hd ps (List.replicate (28-ps.length) (0,0)))=true:=by rw[layW,hfL_append,hf_pairA,hhd];rfl
   have h64:(layW hd ps (List.replicate (28-ps.length) (0,0))).length=64:=by
     rw[layW,List.length_append,hh8,encs_length (f:=pairA) (k:=2),List.length_append,List.length_replicate];omega
   subst a1
   simp(disch:=omega)only[wk,tupled,↓reduceIte,reduceEqDiff,reduceEq,reduceAdd,reduceCtorEq,E1,E3,E4,nl]
   simp only[purify,List.getElem?_cons_zero]
   rw[if_pos ⟨by rw[h64];omega,hhf⟩,List.drop_zero,List.take_of_length_le (by rw[h64];omega)]
 | cons x r=>
   simp only[List.length_cons]at hRl
   obtain rfl:=hz (by rw[a1];simp)
   obtain⟨kk,q⟩:=x
   have dr:List.drop (pre.length*2) (encs pairA ps)= .int .u64 kk:: .int .u64 q::encs pairA r:=by rw[a1,drop_pre,encs_cons];rfl
   have lt:(pre.length:Int)<ps.length:=by omega
   have tn1:(8+2*(pre.length:Int)).toNat=8+2*pre.length:=by omega
   have tn2:(9+2*(pre.length:Int)).toNat=8+2*pre.length+1:=by omega
   have er:List.replicate (28-pre.length) ((0:Int),(0:Int))=(0,0)::List.replicate (28-(pre++[(kk,q)]).length) (0,0):=by
     rw[show 28-pre.length=(28-(pre++[(kk,q)]).length)+1 by simp;omega];rfl
   rw[er]
   generalize hR:List.replicate (28-(pre++[(kk,q)]).length) ((0:Int),(0:Int))=R at*
   have w1:=layW_key hh8 pre (0,0) R kk
   have w2:=layW_ptr hh8 pre (kk,0) R q
   have hlen1:(layW hd pre ((0,0)::R)).length=64:=by
     rw[layW,List.length_append,hh8,encs_length (f:=pairA) (k:=2),List.length_append,List.length_cons,<-hR];simp;omega
   have hlen2:(layW hd pre ((kk,0)::R)).length=64:=by
     rw[layW,List.length_append,hh8,encs_length (f:=pairA) (k:=2),List.length_append,List.length_cons,<-hR];simp;omega
   dsimp only at w1 w2
   simp(disch:=omega)only[wk,tupled,↓reduceIte,reduceEqDiff,reduceEq,reduceAdd,reduceCtorEq,Nat.zero_add,E1,E3,E4,lt,dr,tn1,tn2,w1,w2,hlen1,hlen2]
   refine ih (pre++[(kk,q)],r) _ _ _ (by simp) ?_
   refine⟨by rw[a1];simp,by simp only[en,↓reduceIte,reduceEqDiff,E1],by simp only[en,↓reduceIte,reduceEqDiff,E3],by simp only[en,↓reduceIte,reduceEqDiff],rfl, ?_⟩
   have e2:layW hd pre ((kk,q)::R)=layW hd (pre++[(kk,q)]) R:=by simp[layW]
   rw[e2]
   exact congrArg (fun z=>[AObj.cells (layW hd (pre++[(kk,q)]) z)]) hR.symm
def nodeM (v s l f y:Int) (ps:List (Int×Int)):List Int:=[nmark+v,s,l,f,y,0,0,0]++(fillP ps).flatMap fun p=>[p.1,p.2]
theorem encs_flat:∀ps:List (Int×Int),encs u64A (ps.flatMap fun p=>[p.1,p.2])=encs pairA ps
 |[]=>rfl
 |x::r=>by rw[List.flatMap_cons,encs_append,encs_flat r,encs_cons];rfl
theorem nodeM_cells (v s l f y:Int) (ps:List (Int×Int)):wordsA (hdN v s l f y) (fillP ps) []=encs u64A (nodeM v s l f y ps):=by
 unfold nodeM
 rw[encs_append,encs_flat,wordsA,List.append_nil];rfl
theorem nodeM_len {v s l f y:Int} {ps:List (Int×Int)} (h:ps.length<=28):(nodeM v s l f y ps).length=64:=by
 have e:∀q:List (Int×Int),(q.flatMap fun p=>[p.1,p.2]).length=2*q.length:=fun q=>by
   induction q with
   |nil=>rfl
   |cons x r ih=>rw[List.flatMap_cons,List.length_append,ih];simp;omega
 unfold nodeM
 rw[List.length_append,e,fillP_len h];rfl
def needsN (n:Nat):Nat:=if n<=18 then 1 else(n+17)/18+1
noncomputable def needsC (n:Nat):Bool:=
 match (cbsK tab (fun _ _=>none) 60).pc 52 [.int .i64 ((n:Nat):Int)] with
 |some (.plain (.int .i64 k))=>decide (k=((needsN n:Nat):Int))
 |_=>false
theorem needs_all:(List.range 63).all needsC=true:=by kernel_rfl
theorem needs_px {n:Nat} (h:n<63) (H:Heap):pcx (cbL tab) 52 [.int .i64 ((n:Nat):Int)] H=some (.plain (.int .i64 ((needsN n:Nat):Int))):=by
 have hc:=List.all_eq_true.1 needs_all n (List.mem_range.2 h)
 refine pcx_N rfl (pc_run (known:=fun _ _=>none) (fun _ _ _ h=>by cases h) 60 ?_)
 unfold needsC at hc
 split at hc
 . rename_i k e
   rw[e,of_decide_eq_true hc]
 . cases hc
theorem blkM_all:(List.range 64).all (fun b=>b=0||blkM [] (freeF b (64-b)))=true:=by kernel_rfl
theorem blkM_free {b:Nat} (h0:0<b) (h:b<=64):blkM [] (freeF b (64-b))=true:=by
 by_cases h64:b=64
 . subst h64;rfl
 . have:=List.all_eq_true.1 blkM_all b (List.mem_range.2 (by omega))
   rw[Bool.or_eq_true,decide_eq_true_eq]at this
   rcases this with h1|h1
   . omega
   . exact h1
end Go.Proofs.YtogbblcnfcfflaaGreat
