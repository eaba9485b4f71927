/- TEXTS OF THE WALKS, put together: SU2 SU3 SU4 SU5 SU6 SU7 SK0 SKE SK1 LFr LU. No condition but those stated. -/
import Derived.Test.YtephfpdnhdpmkaaGreatDoorQ2
import Derived.Test.YtephfpdnhdpmkaaGreatDoorQ1
import Derived.Test.YtephfpdnhdpmkaaGreatDoorAmOpen
open Int (reduceEq)
open Nat (reduceEqDiff reduceAdd reduceMul reduceLT reduceLeDiff)
set_option linter.all false
set_option maxHeartbeats 8000000
set_option maxRecDepth 1000000
namespace Go.Proofs.YtephfpdnhdpmkaaGreatDoor
open Go Go.Am Go.Spc Go.Rec
theorem toRi {f:FuncId} {args:List AV} {H:Heap} {r:Out×Heap} (h:(cbL tab).ic f args H=some r):(cbL tabR).ic f args H=some r:=subR.ic _ _ _ _ h
theorem risM_mem {a b:Int}:∀{l:List Int} {p:Option Int},risM a b p l=true->(∀x∈l,a<=x/\x<b/\∀y,p=some y->y<x)/\l.Pairwise (· < ·)
 |[],_,_=>⟨by simp,.nil⟩
 | x::r,p,h=>by
   rw[risM_cons,Bool.and_eq_true]at h
   obtain⟨h1,h2⟩:=h
   obtain⟨x1,x2,x3⟩:=of_decide_eq_true h1
   obtain⟨i1,i2⟩:=risM_mem h2
   refine⟨fun y hy=> ?_,List.pairwise_cons.2 ⟨fun y hy=>(i1 y hy).2.2 x rfl,i2⟩⟩
   rcases List.mem_cons.1 hy with rfl|hy
   . exact⟨x1,x2,x3⟩
   . obtain⟨y1,y2,y3⟩:=i1 y hy
     exact⟨y1,y2,fun z hz=>by have:=x3 z hz;have:=y3 x rfl;omega⟩
def dF (f:Frm):Int:=9+f.i/4+f.r/4+1
def pB (f:Frm) (bl:List Int) (i:Nat):Bool:=decide ((i:Int)<dF f)||decide ((i:Int)∈bl)
theorem BM.congr {G:Heap} {mo id n:Nat} {many:Int} {p q:Nat->Bool} (B:BM G mo id n many p) (h:∀i,p i=q i):BM G mo id n many q:=by
 obtain rfl:p=q:=funext h
 exact B
theorem bits_ic {f:Frm} {rt:Tv} {ns bl rl:List Int} {bv rv:AV} (I:Img f rt ns bl rl bv rv) (ok:okI f bl rl=true) (H:Heap):
   ∃mo id G,(cbL tab).ic 40 [.agg (imgC f (mkT rt ns) bv rv)] H=some (.ret (.ptr mo 0),G)/\BM G mo id 1 f.b (pB f bl)/\H.length<=mo/\H.length<=id/\(∀i,i<H.length->G[i]? =H[i]?):=by
 have hf:=I.fo
 unfold okF at hf
 have b64:=I.b64
 obtain⟨k,hk⟩:=Int.eq_ofNat_of_zero_le (show 0<=f.b by omega)
 obtain⟨d,hd⟩:=Int.eq_ofNat_of_zero_le (show 0<=dF f by unfold dF;omega)
 have hdk:d<=k:=by unfold dF at hd;omega
 unfold okI at ok
 rw[Bool.and_eq_true]at ok
 have rm:=(risM_mem ok.1).1
 have o1:=I.b.one
 have o2:=I.r.one
 have lb:=I.lb
 obtain⟨s,tk,hbv,hs,htk⟩:=I.b
 clear I
 generalize mkT rt ns=T at*
 have im:imgC f T bv rv=[.int .i64 f.b,.int .i64 f.i,.int .i64 f.r,.int .i64 f.t,.int .u64 5,.int .u64 6,.int .i64 9,.int .i64 (9+f.i/4),.int .i64 (9+f.i/4+f.r/4),.int .i64 (dF f),.sl 7 T.length (encs tvC T) .ro,bv,rv]:=rfl
 obtain⟨C,hC⟩:∃C,C=H++[AObj.cells (imgC f T bv rv)]:=⟨_,rfl⟩
 obtain⟨G1,n1,n2,n3⟩:=new_ic (H:=C) (k:=k) (by omega) (by omega)
 have lC:C.length=H.length+1:=by rw[hC];simp
 rw[show(k+63)/64=1 by omega]at n3
 obtain⟨G2,s1,s2,s3,s4⟩:=bset_ic n3 (a:=0) (c:=d) (by omega)
 have:=ic_wp (tab:=tab) (f:=40) (fi:=c40) (args:=[.agg (imgC f T bv rv)]) (H:=H) (P:=fun o G=>o= .ret (.ptr (C.length+1) 0)/\BM G (C.length+1) C.length 1 f.b (pB f bl)/\(∀i,i<H.length->G[i]? =H[i]?)) rfl rfl (by simp[c40]) (by decide) ?_
 . obtain⟨o,G,e1,rfl,e2,e3⟩:=this
   exact⟨_,_,G,e1,e2,by omega,by omega,e3⟩
 unfold c40
 have g0:∀L:List AObj,(H++L)[H.length]? =L[0]? :=fun L=>by rw[List.getElem?_append_right (Nat.le_refl _),Nat.sub_self]
 have cg:C[H.length]? =some (.cells (imgC f T bv rv)):=by rw[hC,g0];rfl
 have gC:(C++G1)[H.length]? =some (.cells (imgC f T bv rv)):=by rw[List.getElem?_append_left (by omega)];exact cg
 have gC2:G2[H.length]? =some (.cells (imgC f T bv rv)):=by rw[s4 _ (by simp;omega) (by omega)];exact gC
 rw[<-hk]at n1
 rw[<-hd]at s1
 rw[im]at hC cg gC gC2 ⊢
 have pn:∀(a:AV) (H:Heap),pcx (cbL tab) 48 [a] H=none:=fun a H=>pcx_none rfl (pc_none (fi:=c48) rfl rfl)
 have l1:(cbL tab).lent 48=false:=rfl
 have l2:(cbL tab).lent 50=false:=rfl
 have s1:(cbL tab).ic 50 [.ptr (C.length+1) 0,.int .i64 0,.int .i64 (dF f)] (C++G1)=some (.ret (.int .i64 0),G2):=s1
 subst hbv
 simp(disch:=omega)only[wk,tupled,↓reduceIte,reduceEqDiff,reduceEq,reduceAdd,reduceCtorEq,o1,o2,<-hC,cg,gC,gC2,pn,pset,runE_none l1,runE_none l2,n1,s1]
 refine loop_ind (fun(x:List Int×List Int) E df G=>bl=x.1++x.2/\E 3= .ptr (C.length+1) 0/\E 24= .sl s bl.length (encs i64A bl) tk/\E 25= .int .i64 ((bl.length:Nat):Int)/\E 26= .int .i64 ((x.1.length:Nat):Int)/\df=[]
     /\BM G (C.length+1) C.length 1 f.b (fun i=>(false||decide (0<=i/\i<0+d))||decide ((i:Int)∈x.1))/\(∀i,i<H.length->G[i]? =H[i]?))
   (fun x=>x.2.length) ([],bl) (by decide) (.inl rfl) ⟨rfl,rfl,rfl,rfl,rfl,rfl, ?_,fun i hi=> ?_⟩ ?_
 . refine BM.congr (p:=fun i=>false||decide (0<=i/\i<0+d)) (by rw[hk];exact s2) fun i=> ?_
   simp
 . rw[s4 i (by simp;omega) (by omega),List.getElem?_append_left (by omega),hC,List.getElem?_append_left hi]
 intro ⟨pre,suf⟩ E df G ih hP
 obtain⟨a1,E3,E24,E25,E26,hdf,B,gold⟩:=hP
 dsimp only at a1 E26 B
 subst hdf
 have la:bl.length=pre.length+suf.length:=by rw[a1,List.length_append]
 cases suf with
 | nil=>
   have n1:¬(pre.length:Int)<(bl.length:Int):=by rw[la];simp
   have ep:pre=bl:=by rw[a1];simp
   simp(disch:=omega)only[wk,tupled,↓reduceIte,reduceEqDiff,reduceEq,reduceAdd,reduceCtorEq,E3,E24,E25,E26,n1]
   refine⟨BM.congr B fun i=> ?_,gold⟩
   unfold pB
   rw[ep,hd,Bool.false_or]
   congr 1
   by_cases h:i<d
   . rw[decide_eq_true (by omega),decide_eq_true (by omega)]
   . rw[decide_eq_false (by omega),decide_eq_false (by omega)]
 | cons x r=>
   rw[List.length_cons]at la
   have n1:(pre.length:Int)<(bl.length:Int):=by omega
   obtain rfl:=hs (by rw[a1];simp)
   have d1:=i_drop pre x r
   rw[<-a1]at d1
   obtain⟨x1,x2,_⟩:=rm x (by rw[a1];simp)
   obtain⟨z,hz⟩:=Int.eq_ofNat_of_zero_le (show 0<=x by unfold dF at hd;omega)
   obtain⟨G',q1,q2,q3,q4⟩:=bset_ic B (a:=z) (c:=1) (by omega)
   rw[<-hz]at q1
   have q1:(cbL tab).ic 50 [.ptr (C.length+1) 0,.int .i64 x,.int .i64 1] G=some (.ret (.int .i64 0),G'):=q1
   simp(disch:=omega)only[wk,tupled,↓reduceIte,reduceEqDiff,reduceEq,reduceAdd,reduceCtorEq,E3,E24,E25,E26,n1,d1,pset,runE_none l2,q1]
   refine ih (pre++[x],r) _ _ _ (by simp) ⟨by simp[a1],by simp only[en,↓reduceIte,reduceEqDiff,E3],by simp only[en,↓reduceIte,reduceEqDiff,E24],by simp only[en,↓reduceIte,reduceEqDiff,E25],by simp only[en,↓reduceIte,reduceEqDiff],rfl,BM.congr q2 fun i=> ?_,fun i hi=> ?_⟩
   . dsimp only
     rw[Bool.or_assoc]
     congr 1
     by_cases h:(i:Int)∈pre
     . rw[decide_eq_true h,decide_eq_true (List.mem_append.2 (.inl h))];rfl
     . rw[decide_eq_false h,Bool.false_or]
       by_cases e:(i:Int)=x
       . rw[decide_eq_true (by omega),decide_eq_true (List.mem_append.2 (.inr (List.mem_singleton.2 e)))]
       . rw[decide_eq_false (by omega),decide_eq_false fun hm=>(List.mem_append.1 hm).elim h fun hm=>e (List.mem_singleton.1 hm)]
   . rw[q4 i ?_ (by omega)];exact gold i hi
     have:=(List.getElem?_eq_some_iff.1 B.w).1
     omega
theorem has_ic {G:Heap} {mo id n:Nat} {many:Int} {p:Nat->Bool} (B:BM G mo id n many p) {k:Nat} (hk:k<64*n):(cbL tab).ic 79 [.msl 1 id 0 n,.int .i64 (k:Int)] G=some (.ret (.bool (p k)),G):=by
 obtain⟨m,w,lo,hi,few⟩:=B
 have:=ic_wp (tab:=tab) (f:=79) (fi:=c79) (args:=[.msl 1 id 0 n,.int .i64 (k:Int)]) (H:=G) (P:=fun o G'=>o= .ret (.bool (p k))/\G'=G) rfl rfl (by simp[c79]) (by decide) ?_
 . obtain⟨o,G',e1,rfl,rfl⟩:=this
   exact e1
 unfold c79
 have kd:k/64<n:=by omega
 have km:k % 64<64:=by omega
 have w1:IntKind.i64.wrap ((k/64:Nat):Int)=((k/64:Nat):Int):=wrap_i64 (by omega) (by omega)
 have g1:=wL_at p kd
 have e:64*(k/64)+k % 64=k:=by omega
 have a1:=fun xo yo ek=>and1_wN (fun j=>p (64*(k/64)+j)) km (xo:=xo) (yo:=yo) (ek:=ek)
 rw[e]at a1
 cases hp:p k<;>rw[hp]at a1<;>simp only[Bool.false_eq_true,if_false,if_true]at a1<;>simp(disch:=omega)only[wk,tupled,↓reduceIte,reduceEqDiff,reduceEq,reduceAdd,reduceCtorEq,w,td,tm,w1,g1,Nat.zero_add,Int.toNat_natCast,and_wN _ km,a1]
theorem phas (id n:Nat) (a:AV) (H:Heap):pcx (cbL tab) 79 [.msl 1 id 0 n,a] H=none:=pcx_none rfl (pc_none (fi:=c79) rfl rfl)
theorem get_ic {G:Heap} {mo id n:Nat} {many:Int} {p:Nat->Bool} (B:BM G mo id n many p) {k:Nat} (hk:(k:Int)<many):(cbL tab).ic 47 [.ptr mo 0,.int .i64 (k:Int)] G=some (.ret (.tup [.bool (p k),.int .i64 0]),G):=by
 have n0:=none_ic B
 have h0:=has_ic B (k:=k) (by have:=B.hi;omega)
 obtain⟨m,w,lo,hi,few⟩:=B
 have:=ic_wp (tab:=tab) (f:=47) (fi:=c47) (args:=[.ptr mo 0,.int .i64 (k:Int)]) (H:=G) (P:=fun o G'=>o= .ret (.tup [.bool (p k),.int .i64 0])/\G'=G) rfl rfl (by simp[c47]) (by decide) ?_
 . obtain⟨o,G',e1,rfl,rfl⟩:=this
   exact e1
 unfold c47
 have l1:(cbL tab).lent 75=false:=rfl
 have l2:(cbL tab).lent 79=false:=rfl
 have n1:¬(k:Int)<0:=by omega
 have n2:¬many<=(k:Int):=by omega
 simp(disch:=omega)only[wk,tupled,↓reduceIte,reduceEqDiff,reduceEq,reduceAdd,reduceCtorEq,m,pnone,phas,runE_none l1,runE_none l2,n0,h0,n1,n2]
theorem pget (v:Nat) (a:AV) (H:Heap):pcx (cbL tab) 47 [.ptr v 0,a] H=none:=pcx_none rfl (pc_none (fi:=c47) rfl rfl)
theorem free1_ic {G:Heap} {mo id n mb:Nat} {many:Int} {p:Nat->Bool} (B:BM G mo id n many p) (hb:G[mb]? =some (.cells [.ptr mo 0])) {k:Nat} (hk:(k:Int)<many):(cbL tab).ic 46 [.int .i64 (k:Int),.ptr mb 0] G=some (.ret (.bool (!p k)),G):=by
 have h0:=get_ic B hk
 have:=ic_wp (tab:=tab) (f:=46) (fi:=c46) (args:=[.int .i64 (k:Int),.ptr mb 0]) (H:=G) (P:=fun o G'=>o= .ret (.bool (!p k))/\G'=G) rfl rfl (by simp[c46]) (by decide) ?_
 . obtain⟨o,G',e1,rfl,rfl⟩:=this
   exact e1
 unfold c46
 have l1:(cbL tab).lent 47=false:=rfl
 cases hp:p k<;>rw[hp]at h0<;>simp(disch:=omega)only[wk,tupled,↓reduceIte,reduceEqDiff,reduceEq,reduceAdd,reduceCtorEq,hb,pget,runE_none l1,h0,Bool.not_true,Bool.not_false]
def rngM (P:Int->Bool):Int->Nat->List Int
 |_,0=>[]
 |a,k+1=>if P a then a::rngM P (a+1) k else rngM P (a+1) k
theorem rngM_snoc (P:Int->Bool):∀(k:Nat) (a:Int),rngM P a (k+1)=rngM P a k++(if P (a+k)then [a+k] else [])
 | 0,a=>by
   show(if P a then [a] else [])=[]++(if P (a+(0:Nat))then [a+(0:Nat)] else [])
   simp
 | k+1,a=>by
   have ih:=rngM_snoc P k (a+1)
   rw[show a+1+(k:Int)=a+((k+1:Nat):Int)by omega]at ih
   rw[rngM,ih,rngM]
   split<;>simp
theorem rngM_len (P:Int->Bool):∀(k:Nat) (a:Int),(rngM P a k).length<=k
 |0,_=>by simp[rngM]
 | k+1,a=>by
   have:=rngM_len P k (a+1)
   rw[rngM]
   split<;>simp<;>omega
def OwnI (G:Heap) (v:AV) (l:List Int):Prop:=Own G 1 v l.length (encs i64A l)
theorem OwnI.app {G:Heap} {v:AV} {l:List Int} (h:OwnI G v l) (L:List AObj):OwnI (G++L) v l:=by
 rcases h with h|⟨h0,g,h1,h2⟩
 . exact .inl h
 . exact .inr ⟨h0,g,h1,by rw[List.getElem?_append_left (List.getElem?_eq_some_iff.1 h2).1];exact h2⟩
theorem such_ic {H:Heap} {fn:FuncId} {cap:List AV} {P:Int->Bool} {a:Int} {k:Nat} (ha:0<=a) (hk:a+k<=100000) (hc:(lend (.fn fn cap)).hf=false)
   (hP:∀x G,a<=x->x<a+k->(∀i,i<H.length->G[i]? =H[i]?)->∃L,(cbL tabR).ic fn (.int .i64 x::cap) G=some (.ret (.bool (P x)),G++L)) (ll:(cbL tabR).lent fn=false) (pn:∀x G,pcx (cbL tabR) fn (.int .i64 x::cap) G=none):
   ∃v G,(cbL tabR).ic 45 [.int .i64 a,.int .i64 (a+k),.fn fn cap] H=some (.ret v,G)/\OwnI G v (rngM P a k)/\∀i,i<H.length->G[i]? =H[i]? :=by
 have:=ic_wp (tab:=tabR) (f:=45) (fi:=c45) (args:=[.int .i64 a,.int .i64 (a+k),.fn fn cap]) (H:=H) (P:=fun o G=>∃v,o= .ret v/\OwnI G v (rngM P a k)/\∀i,i<H.length->G[i]? =H[i]?) rfl (by
   show(hfL [lend (.int .i64 a),lend (.int .i64 (a+k)),lend (.fn fn cap)])=false
   simp only[hfL,hc,Bool.and_false,Bool.false_and]) (by simp[c45]) (by decide) ?_
 . obtain⟨o,G,e1,v,rfl,e2,e3⟩:=this
   exact⟨v,G,e1,e2,e3⟩
 unfold c45
 simp(disch:=omega)only[wk,tupled,↓reduceIte,reduceEqDiff,reduceEq,reduceAdd,reduceCtorEq]
 refine loop_ind (fun(i:Nat) E df G=>i<=k/\E 1= .int .i64 (a+k)/\E 2= .fn fn cap/\OwnI G (E 6) (rngM P a i)/\E 7= .int .i64 (a+i)/\df=[]/\(∀i,i<H.length->G[i]? =H[i]?)/\H.length<=G.length/\∀g,tokOf (E 6)=some g->H.length<=g)
   (fun i=>k-i) 0 (by decide) (.inl rfl) ⟨Nat.zero_le _,rfl,rfl,.inl ⟨.inl rfl,rfl,rfl⟩,by simp only[en,↓reduceIte,reduceEqDiff];simp,rfl,fun i hi=>rfl,Nat.le_refl _,fun g hg=>by cases hg⟩ ?_
 intro i E df G ih hP
 obtain⟨hi,E1,E2,E6,E7,hdf,gold,gle,tkg⟩:=hP
 subst hdf
 by_cases hk:i<k
 . have n1:a+(i:Int)<a+(k:Int):=by omega
   obtain⟨L,hL⟩:=hP (a+i) G (by omega) (by omega) gold
   have w1:IntKind.i64.wrap (a+(i:Int)+1)=a+((i+1:Nat):Int):=by rw[wrap_i64 (by omega) (by omega)];omega
   have sn:=rngM_snoc P i a
   cases hp:P (a+i)with
   | false=>
     rw[hp]at hL
     rw[hp,if_neg Bool.false_ne_true,List.append_nil]at sn
     simp(disch:=omega)only[wk,tupled,↓reduceIte,reduceEqDiff,reduceEq,reduceAdd,reduceCtorEq,E1,E2,E7,n1,pn,runE_none ll,hL,w1]
     refine ih (i+1) _ _ _ (by omega) ⟨hk,by simp only[en,↓reduceIte,reduceEqDiff,E1],by simp only[en,↓reduceIte,reduceEqDiff,E2], ?_,by simp only[en,↓reduceIte,reduceEqDiff],rfl,fun q hq=> ?_,by simp;omega, ?_⟩
     . rw[sn];simp only[en,↓reduceIte,reduceEqDiff];exact E6.app L
     . rw[List.getElem?_append_left (by omega)]
       exact gold q hq
     . simp only[en,↓reduceIte,reduceEqDiff];exact tkg
   | true=>
     rw[hp]at hL
     rw[hp,if_pos rfl]at sn
     have rl:=rngM_len P i a
     simp(disch:=omega)only[wk,tupled,↓reduceIte,reduceEqDiff,reduceEq,reduceAdd,reduceCtorEq,E1,E2,E7,n1,pn,runE_none ll,hL,w1]
     refine runX_app (E6.app L) (by decide) (by omega) (by omega) (by decide) rfl rfl (fun H2 q1 q2 q3=> ?_)
     simp(disch:=omega)only[wk,tupled,↓reduceIte,reduceEqDiff,reduceEq,reduceAdd,reduceCtorEq,E1,E2,E7,w1]
     rw[List.length_append]at q3
     refine ih (i+1) _ _ _ (by omega) ⟨hk,by simp only[en,↓reduceIte,reduceEqDiff,E1],by simp only[en,↓reduceIte,reduceEqDiff,E2], ?_,by simp only[en,↓reduceIte,reduceEqDiff],rfl,fun q hq=> ?_,by omega, ?_⟩
     . simp only[en,↓reduceIte,reduceEqDiff]
       rw[sn]
       unfold OwnI
       rw[List.length_append,encs_append]
       rw[List.length_append]at q1
       exact q1
     . rw[<-gold q hq]
       have hq':q<G.length:=by omega
       rw[List.getElem?_eq_getElem hq']
       refine q2 q _ (by rw[List.getElem?_append_left hq',List.getElem?_eq_getElem hq']) fun e=> ?_
       have:=tkg q e
       omega
     . simp only[en,↓reduceIte,reduceEqDiff]
       intro g hg
       cases hg
       omega
 . have e:i=k:=by omega
   subst e
   have n1:¬a+(i:Int)<a+(i:Int):=by omega
   simp(disch:=omega)only[wk,tupled,↓reduceIte,reduceEqDiff,reduceEq,reduceAdd,reduceCtorEq,E1,E2,E7,n1]
   exact⟨_,rfl,E6,gold⟩
theorem pur_own {G:Heap} {v:AV} {l:List Int} (h:OwnI G v l) (e:Int):∃w,IntR l w/\purify (some (.ret (.tup [v,.int .i64 e]),G))=some (.plain (.tup [w,.int .i64 e])):=by
 have hh:=hfL_encs (f:=i64A) (fun _=>rfl) l
 rcases h with⟨h1,h2,h3⟩|⟨h0,g,rfl,hg⟩
 . have:l=[]:=List.length_eq_zero_iff.1 h2
   subst this
   rcases h1 with rfl|rfl
   . exact⟨_,⟨0,.z,rfl,fun h=>absurd rfl h,rfl⟩,rfl⟩
   . exact⟨_,⟨1,.e,rfl,fun _=>rfl,rfl⟩,rfl⟩
 . refine⟨.sl 1 l.length (encs i64A l) .ro,⟨1,.ro,rfl,fun _=>rfl,rfl⟩, ?_⟩
   show(if(AV.tup [lend (.sl 1 l.length (encs i64A l) (.own g)),lend (.int .i64 e)]).hf=true then _ else none)=_
   rw[if_pos]
   . rfl
   . show hfL [.sl 1 l.length (encs i64A l) .ro,.int .i64 e]=true
     simp[hfL,AV.hf,hh,Tk.hf]
def freeL (f:Frm) (bl:List Int):List Int:=rngM (fun b=> !pB f bl b.toNat) (dF f) (f.b-dF f).toNat
theorem BM.of {G G':Heap} {mo id n:Nat} {many:Int} {p:Nat->Bool} (B:BM G mo id n many p) (h:∀i,i<G.length->G'[i]? =G[i]?):BM G' mo id n many p:=by
 obtain⟨m,w,lo,hi,few⟩:=B
 exact⟨by rw[h _ (List.getElem?_eq_some_iff.1 m).1];exact m,by rw[h _ (List.getElem?_eq_some_iff.1 w).1];exact w,lo,hi,few⟩
theorem sFree_px {f:Frm} {rt:Tv} {ns bl rl:List Int} {bv rv:AV} (I:Img f rt ns bl rl bv rv):∃w,IntR (if okI f bl rl then freeL f bl else []) w/\∀H,
   pcx (cbL tabR) 17 [.agg (imgC f (mkT rt ns) bv rv)] H=some (.plain (.tup [w,.int .i64 (if okI f bl rl then 0 else 2)])):=by
 have so:=fun H=>sof_px I H
 have hon:pcOn c17 [.agg (imgC f (mkT rt ns) bv rv)]=true:=by
   simp only[pcOn,List.map_cons,List.map_nil,I.lend,c17]
   exact I.hf
 have o1:=I.b.one
 have o2:=I.r.one
 have li:=I.lend
 have hf:=I.fo
 unfold okF at hf
 have b64:=I.b64
 cases ok:okI f bl rl with
 | false=>
   simp only[Bool.false_eq_true,if_false]
   rw[ok]at so
   simp only[Bool.false_eq_true,if_false]at so
   refine⟨.sl 0 0 [] .z,⟨0,.z,rfl,fun h=>absurd rfl h,rfl⟩,fun H=>pcx_N rfl (pc_wp (fi:=c17) rfl hon (by simp[c17]) (by decide) ?_)⟩
   unfold c17
   rw[List.map_cons,List.map_nil,li]
   clear hon li
   generalize mkT rt ns=T at*
   unfold imgC z13 at*
   simp(disch:=omega)only[wk,tupled,↓reduceIte,reduceEqDiff,reduceEq,reduceAdd,reduceCtorEq,so,o1,o2]
   rfl
 | true=>
   simp only[if_true]
   rw[ok]at so
   simp only[if_true]at so
   obtain⟨C,hC⟩:∃C:List AObj,C=[.cells (imgC f (mkT rt ns) bv rv),.cells (imgC f (mkT rt ns) bv rv)]:=⟨_,rfl⟩
   obtain⟨mo,id,G,b1,b2,b3,b4,b5⟩:=bits_ic I ok C
   have b1:=toRi b1
   obtain⟨k,hk⟩:∃k,k=(f.b-dF f).toNat:=⟨_,rfl⟩
   have hd:0<=dF f:=by unfold dF;omega
   have hdk:dF f+(k:Int)=f.b:=by unfold dF at*;omega
   have lG:(∀i,i<(G++[AObj.cells [.ptr mo 0]]).length->(G++[AObj.cells [.ptr mo 0]])[i]? =(G++[AObj.cells [.ptr mo 0]])[i]?):=fun _ _=>rfl
   obtain⟨v,G',s1,s2,s3⟩:=such_ic (H:=G++[.cells [.ptr mo 0]]) (fn:=46) (cap:=[.ptr G.length 0]) (P:=fun b=> !pB f bl b.toNat) (a:=dF f) (k:=k) hd (by omega) rfl
     (fun x G' h1 h2 h3=>by
       obtain⟨z,rfl⟩:=Int.eq_ofNat_of_zero_le (show 0<=x by omega)
       refine⟨[], ?_⟩
       rw[List.append_nil]
       exact toRi (free1_ic (BM.of (b2.app _) h3) (by rw[h3 _ (by simp),List.getElem?_append_right (Nat.le_refl _),Nat.sub_self];rfl) (by omega)))
     rfl (fun x G=>pcx_none rfl (pc_none (fi:=c46) rfl rfl))
   rw[hdk]at s1
   have fl:freeL f bl=rngM (fun b=> !pB f bl b.toNat) (dF f) k:=by unfold freeL;rw[hk]
   obtain⟨w,w1,w2⟩:=pur_own s2 0
   rw[fl]
   refine⟨w,w1,fun H=>pcx_N rfl (pc_wp (fi:=c17) rfl hon (by simp[c17]) (by decide) ?_)⟩
   unfold c17
   rw[List.map_cons,List.map_nil,li]
   have c0:C[0]? =some (.cells (imgC f (mkT rt ns) bv rv)):=by rw[hC];rfl
   have c1:C[1]? =some (.cells (imgC f (mkT rt ns) bv rv)):=by rw[hC];rfl
   have d1:∀L:List AObj,(G++L)[1]? =some (.cells (imgC f (mkT rt ns) bv rv)):=fun L=>by
     have e:=b5 1 (by rw[hC];simp)
     rw[c1]at e
     rw[List.getElem?_append_left (List.getElem?_eq_some_iff.1 e).1];exact e
   have pb:∀(v:AV) (H:Heap),pcx (cbL tabR) 40 [v] H=none:=fun v H=>pcx_none rfl (pc_none (fi:=c40) rfl rfl)
   have ps:∀(x y:AV) (f:FuncId) (q:Nat) (H:Heap),pcx (cbL tabR) 45 [x,y,.fn f [.ptr q 0]] H=none:=fun x y f q H=>pcx_none rfl (pc_none (fi:=c45) rfl (by
     show hfL [lend x,lend y,_]=false
     simp[hfL,AV.hf,lend,unown]))
   have l1:(cbL tabR).lent 40=false:=rfl
   have l2:(cbL tabR).lent 45=false:=rfl
   have g0:∀L:List AObj,(G++L)[G.length]? =L[0]? :=fun L=>by rw[List.getElem?_append_right (Nat.le_refl _),Nat.sub_self]
   have g1:∀(L:List AObj) (o:AObj),(G++L).set G.length o=G++L.set 0 o:=fun L o=>by rw[List.set_append_right _ _ (Nat.le_refl _),Nat.sub_self]
   clear hon li I
   generalize mkT rt ns=T at*
   have im:imgC f T bv rv=[.int .i64 f.b,.int .i64 f.i,.int .i64 f.r,.int .i64 f.t,.int .u64 5,.int .u64 6,.int .i64 9,.int .i64 (9+f.i/4),.int .i64 (9+f.i/4+f.r/4),.int .i64 (dF f),.sl 7 T.length (encs tvC T) .ro,bv,rv]:=rfl
   rw[im]at so b1 c0 c1 d1 hC ⊢
   simp(disch:=omega)only[wk,tupled,↓reduceIte,reduceEqDiff,reduceEq,reduceAdd,reduceCtorEq,so,o1,o2,<-hC,c0,c1,d1,pb,ps,runE_none l1,runE_none l2,b1,s1,g0,g1]
   exact w2
theorem IntR.lend {l:List Int} {v:AV} (h:IntR l v):lend v=v:=by
 obtain⟨s,tk,rfl,_,ht⟩:=h
 exact hfT ht _ _ _
theorem has_px {l:List Int} {v:AV} (hv:IntR l v) (hl:l.length<=100000) (x:Int) (H:Heap):pcx (cbL tab) 59 [v,.int .i64 x] H=some (.plain (.bool (decide (x∈l)))):=by
 have hh:=hv.hf
 have e2:=hv.lend
 obtain⟨s,tk,rfl,hs,htk⟩:=hv
 refine pcx_N rfl (pc_wp (fi:=c59) rfl ?_ (by simp[c59]) (by decide) ?_)
 . simp only[pcOn,List.map_cons,List.map_nil,e2,lend_int,c59,hfL,hh,Bool.true_and];rfl
 unfold c59
 rw[List.map_cons,List.map_cons,List.map_nil,e2,lend_int]
 simp(disch:=omega)only[wk,tupled,↓reduceIte,reduceEqDiff,reduceEq,reduceAdd,reduceCtorEq]
 refine loop_ind (fun(y:List Int×List Int) E df H=>l=y.1++y.2/\x∉y.1/\E 0= .sl s l.length (encs i64A l) tk/\E 1= .int .i64 x/\E 5= .int .i64 ((y.1.length:Nat):Int)/\df=[])
   (fun y=>y.2.length) ([],l) (by decide) (.inl rfl) ⟨rfl,by simp,rfl,rfl,rfl,rfl⟩ ?_
 intro ⟨pre,suf⟩ E df H ih hP
 obtain⟨a1,a2,E0,E1,E5,hdf⟩:=hP
 dsimp only at a1 a2 E5
 subst hdf
 have la:l.length=pre.length+suf.length:=by rw[a1,List.length_append]
 cases suf with
 | nil=>
   have n1:¬(pre.length:Int)<(l.length:Int):=by rw[la];simp
   have e:decide (x∈l)=false:=by rw[a1,List.append_nil];exact decide_eq_false a2
   rw[e]
   simp(disch:=omega)only[wk,tupled,↓reduceIte,reduceEqDiff,reduceEq,reduceAdd,reduceCtorEq,E0,E1,E5,n1,purify,unownT,lend,unown,AV.hf,hfL]
 | cons y r=>
   rw[List.length_cons]at la
   have n1:(pre.length:Int)<(l.length:Int):=by omega
   obtain rfl:=hs (by rw[a1];simp)
   have d1:=i_drop pre y r
   rw[<-a1]at d1
   by_cases h:y=x
   . have e:decide (x∈l)=true:=decide_eq_true (by rw[a1,<-h];simp)
     rw[e]
     simp(disch:=omega)only[wk,tupled,↓reduceIte,reduceEqDiff,reduceEq,reduceAdd,reduceCtorEq,E0,E1,E5,n1,d1,h,purify,unownT,lend,unown,AV.hf,hfL]
   . simp(disch:=omega)only[wk,tupled,↓reduceIte,reduceEqDiff,reduceEq,reduceAdd,reduceCtorEq,E0,E1,E5,n1,d1,h]
     exact ih (pre++[y],r) _ _ _ (by simp) ⟨by simp[a1],by simp[a2,Ne.symm h],by simp only[en,↓reduceIte,reduceEqDiff,E0],by simp only[en,↓reduceIte,reduceEqDiff,E1],by simp only[en,↓reduceIte,reduceEqDiff],rfl⟩
theorem sameInts_px {l:List Int} {s s2:Nat} {tk tk2:Tk} (hs:l≠[]->s=1) (hs2:l≠[]->s2=1) (hl:l.length<=100000) (H:Heap):pcx (cbL tab) 28 [.sl s l.length (encs i64A l) tk,.sl s2 l.length (encs i64A l) tk2] H=some (.plain (.bool true)):=by
 obtain⟨u1,e1,f1⟩:=lend_sl s l.length (encs i64A l) tk
 obtain⟨u2,e2,f2⟩:=lend_sl s2 l.length (encs i64A l) tk2
 have hh:=hfL_encs (f:=i64A) (fun _=>rfl) l
 refine pcx_N rfl (pc_wp (fi:=c28) rfl ?_ (by simp[c28]) (by decide) ?_)
 . simp only[pcOn,List.map_cons,List.map_nil,e1,e2,c28,hfL,AV.hf,f1,f2,hh,Bool.and_self]
 unfold c28
 rw[List.map_cons,List.map_cons,List.map_nil,e1,e2]
 simp(disch:=omega)only[wk,tupled,↓reduceIte,reduceEqDiff,reduceEq,reduceAdd,reduceCtorEq]
 refine loop_ind (fun(y:List Int×List Int) E df H=>l=y.1++y.2/\E 0= .sl s l.length (encs i64A l) u1/\E 1= .sl s2 l.length (encs i64A l) u2/\E 5= .int .i64 ((y.1.length:Nat):Int)/\df=[])
   (fun y=>y.2.length) ([],l) (by decide) (.inl rfl) ⟨rfl,rfl,rfl,rfl,rfl⟩ ?_
 intro ⟨pre,suf⟩ E df H ih hP
 obtain⟨a1,E0,E1,E5,hdf⟩:=hP
 dsimp only at a1 E5
 subst hdf
 have la:l.length=pre.length+suf.length:=by rw[a1,List.length_append]
 cases suf with
 | nil=>
   have n1:¬(pre.length:Int)<(l.length:Int):=by rw[la];simp
   simp(disch:=omega)only[wk,tupled,↓reduceIte,reduceEqDiff,reduceEq,reduceAdd,reduceCtorEq,E0,E1,E5,n1,purify,unownT,lend,unown,AV.hf,hfL]
 | cons y r=>
   rw[List.length_cons]at la
   have n1:(pre.length:Int)<(l.length:Int):=by omega
   obtain rfl:=hs (by rw[a1];simp)
   obtain rfl:=hs2 (by rw[a1];simp)
   have d1:=i_drop pre y r
   rw[<-a1]at d1
   simp(disch:=omega)only[wk,tupled,↓reduceIte,reduceEqDiff,reduceEq,reduceAdd,reduceCtorEq,E0,E1,E5,n1,d1]
   exact ih (pre++[y],r) _ _ _ (by simp) ⟨by simp[a1],by simp only[en,↓reduceIte,reduceEqDiff,E0],by simp only[en,↓reduceIte,reduceEqDiff,E1],by simp only[en,↓reduceIte,reduceEqDiff],rfl⟩
def ixM:List Int->Int->Int->Int
 |[],_,_=> -1
 |y::r,x,i=>if x=y then i else ixM r x (i+1)
theorem ixM_mem:∀(l:List Int) (x:Int) (i:Nat),(x∈l/\0<=ixM l x i)∨(x∉l/\ixM l x i= -1)
 |[],x,i=> .inr ⟨by simp,rfl⟩
 | y::r,x,i=>by
   by_cases h:x=y
   . refine .inl ⟨by simp[h], ?_⟩
     rw[ixM,if_pos h];omega
   . have:=ixM_mem r x (i+1)
     rw[ixM,if_neg h,show((i:Int)+1)=((i+1:Nat):Int)by omega]
     simpa[h] using this
theorem indexI_px {l:List Int} {v:AV} (hv:IntR l v) (hl:l.length<=100000) (x:Int) (H:Heap):pcx (cbL tab) 85 [v,.int .i64 x] H=some (.plain (.int .i64 (ixM l x 0))):=by
 have hh:=hv.hf
 have e2:=hv.lend
 obtain⟨s,tk,rfl,hs,htk⟩:=hv
 refine pcx_N rfl (pc_wp (fi:=c85) rfl ?_ (by simp[c85]) (by decide) ?_)
 . simp only[pcOn,List.map_cons,List.map_nil,e2,lend_int,c85,hfL,hh,Bool.true_and];rfl
 unfold c85
 rw[List.map_cons,List.map_cons,List.map_nil,e2,lend_int]
 simp(disch:=omega)only[wk,tupled,↓reduceIte,reduceEqDiff,reduceEq,reduceAdd,reduceCtorEq]
 refine loop_ind (fun(y:List Int×List Int) E df H=>l=y.1++y.2/\ixM l x 0=ixM y.2 x (y.1.length:Nat)/\E 0= .sl s l.length (encs i64A l) tk/\E 1= .int .i64 x/\E 7= .int .i64 ((l.length:Nat):Int)/\E 8= .int .i64 ((y.1.length:Nat):Int)/\df=[])
   (fun y=>y.2.length) ([],l) (by decide) (.inl rfl) ⟨rfl,rfl,rfl,rfl,rfl,rfl,rfl⟩ ?_
 intro ⟨pre,suf⟩ E df H ih hP
 obtain⟨a1,a2,E0,E1,E7,E8,hdf⟩:=hP
 dsimp only at a1 a2 E8
 subst hdf
 have la:l.length=pre.length+suf.length:=by rw[a1,List.length_append]
 rw[a2]
 cases suf with
 | nil=>
   have n1:¬(pre.length:Int)<(l.length:Int):=by rw[la];simp
   simp(disch:=omega)only[wk,tupled,↓reduceIte,reduceEqDiff,reduceEq,reduceAdd,reduceCtorEq,E0,E1,E7,E8,n1,purify,unownT,lend,unown,AV.hf,hfL]
   rfl
 | cons y r=>
   rw[List.length_cons]at la
   have n1:(pre.length:Int)<(l.length:Int):=by omega
   obtain rfl:=hs (by rw[a1];simp)
   have d1:=i_drop pre y r
   rw[<-a1]at d1
   rw[ixM]at a2 ⊢
   by_cases h:x=y
   . rw[if_pos h]
     simp(disch:=omega)only[wk,tupled,↓reduceIte,reduceEqDiff,reduceEq,reduceAdd,reduceCtorEq,E0,E1,E7,E8,n1,d1,h,purify,unownT,lend,unown,AV.hf,hfL]
   . rw[if_neg h]at a2 ⊢
     simp(disch:=omega)only[wk,tupled,↓reduceIte,reduceEqDiff,reduceEq,reduceAdd,reduceCtorEq,E0,E1,E7,E8,n1,d1,h]
     rw[<-a2]
     exact ih (pre++[y],r) _ _ _ (by simp) ⟨by simp[a1],by dsimp only;rw[a2];simp,by simp only[en,↓reduceIte,reduceEqDiff,E0],by simp only[en,↓reduceIte,reduceEqDiff,E1],by simp only[en,↓reduceIte,reduceEqDiff,E7],by simp only[en,↓reduceIte,reduceEqDiff],rfl⟩
theorem containsI_px {l:List Int} {v:AV} (hv:IntR l v) (hl:l.length<=100000) (x:Int) (H:Heap):pcx (cbL tab) 58 [v,.int .i64 x] H=some (.plain (.bool (decide (x∈l)))):=by
 have hh:=hv.hf
 have e2:=hv.lend
 have ix:=fun H=>indexI_px hv hl x H
 refine pcx_N rfl (pc_wp (fi:=c58) rfl ?_ (by simp[c58]) (by decide) ?_)
 . simp only[pcOn,List.map_cons,List.map_nil,e2,lend_int,c58,hfL,hh,Bool.true_and];rfl
 unfold c58
 rw[List.map_cons,List.map_cons,List.map_nil,e2,lend_int]
 have h:=ixM_mem l x 0
 rcases h with⟨h1,h2⟩|⟨h1,h2⟩
 . have h2:(0:Int)<=ixM l x 0:=h2
   rw[decide_eq_true h1]
   simp(disch:=omega)only[wk,tupled,↓reduceIte,reduceEqDiff,reduceEq,reduceAdd,reduceCtorEq,ix,h2,purify,unownT,lend,unown,AV.hf,hfL]
 . have h2:ixM l x 0= -1:=h2
   rw[h2]at ix
   rw[decide_eq_false h1]
   simp(disch:=omega)only[wk,tupled,↓reduceIte,reduceEqDiff,reduceEq,reduceAdd,reduceCtorEq,ix,purify,unownT,lend,unown,AV.hf,hfL]
   rfl
theorem least_px (l:List Int) {s:Nat} {tk:Tk} (hs:l≠[]->s=1) (H:Heap):pcx (cbL tab) 53 [.sl s l.length (encs i64A l) tk] H=some (.plain (.tup [.int .i64 (l.headD 0),.int .i64 (if l=[] then 5 else 0)])):=by
 obtain⟨u1,e1,f1⟩:=lend_sl s l.length (encs i64A l) tk
 have hh:=hfL_encs (f:=i64A) (fun _=>rfl) l
 refine pcx_N rfl (pc_wp (fi:=c53) rfl ?_ (by simp[c53]) (by decide) ?_)
 . simp only[pcOn,List.map_cons,List.map_nil,e1,c53,hfL,AV.hf,hh,f1,Bool.and_self]
 unfold c53
 rw[List.map_cons,List.map_nil,e1]
 cases l with
 | nil=>
   simp(disch:=omega)only[wk,tupled,↓reduceIte,reduceEqDiff,reduceEq,reduceAdd,reduceCtorEq,purify,unownT,lend,unown,AV.hf,hfL]
   rfl
 | cons x r=>
   obtain rfl:=hs (by simp)
   have n1:¬((r.length:Nat):Int)+1=0:=by omega
   have e:encs i64A (x::r)= .int .i64 x::encs i64A r:=rfl
   have pr:∀H,purify (some (.ret (.tup [.int .i64 x,.int .i64 0]),H))=some (.plain (.tup [.int .i64 x,.int .i64 0])):=fun H=>rfl
   rw[e,if_neg (by simp),List.headD_cons]
   simp(disch:=omega)only[wk,tupled,↓reduceIte,reduceEqDiff,reduceEq,reduceAdd,reduceCtorEq,n1,Int.reduceToNat,Int.reduceAdd,Int.reduceSub,Int.reduceMul,Int.reduceNeg,Nat.reduceSub,Nat.reduceDiv,pr]
theorem rFree_px {f:Frm} {rt:Tv} {ns bl rl:List Int} {bv rv:AV} (I:Img f rt ns bl rl bv rv) (H:Heap):
   pcx (cbL tab) 29 [.agg (imgC f (mkT rt ns) bv rv)] H=some (prRow 1 i64A (rngM (fun b=> !decide (b∈bl)) (dF f) (f.b-dF f).toNat)):=by
 have hs:=fun x H=>has_px I.b (by have:=I.lb;omega) x H
 have hon:pcOn c29 [.agg (imgC f (mkT rt ns) bv rv)]=true:=by
   simp only[pcOn,List.map_cons,List.map_nil,I.lend,c29]
   exact I.hf
 have o1:=I.b.one
 have o2:=I.r.one
 have li:=I.lend
 have hf:=I.fo
 unfold okF at hf
 have b64:=I.b64
 refine pcx_N rfl (pc_wp (fi:=c29) rfl hon (by simp[c29]) (by decide) ?_)
 unfold c29
 rw[List.map_cons,List.map_nil,li]
 clear hon li I
 generalize mkT rt ns=T at*
 have im:imgC f T bv rv=[.int .i64 f.b,.int .i64 f.i,.int .i64 f.r,.int .i64 f.t,.int .u64 5,.int .u64 6,.int .i64 9,.int .i64 (9+f.i/4),.int .i64 (9+f.i/4+f.r/4),.int .i64 (dF f),.sl 7 T.length (encs tvC T) .ro,bv,rv]:=rfl
 obtain⟨C,hC⟩:∃C,C=imgC f T bv rv:=⟨_,rfl⟩
 obtain⟨k,hk⟩:∃k,k=(f.b-dF f).toNat:=⟨_,rfl⟩
 have hd:0<=dF f:=by unfold dF;omega
 have hdk:dF f+(k:Int)=f.b:=by unfold dF at*;omega
 rw[<-hk]
 rw[im]at hC ⊢
 simp(disch:=omega)only[wk,tupled,↓reduceIte,reduceEqDiff,reduceEq,reduceAdd,reduceCtorEq,o1,o2]
 refine loop_ind (fun(i:Nat) E df G=>i<=k/\E 1= .ptr 0 0/\G[0]? =some (.cells C)/\OwnI G (E 3) (rngM (fun b=> !decide (b∈bl)) (dF f) i)/\(rngM (fun b=> !decide (b∈bl)) (dF f) i=[]->E 3= .sl 0 0 [] .z)/\E 4= .int .i64 (dF f+i)/\df=[])
   (fun i=>k-i) 0 (by decide) (.inl rfl) ⟨Nat.zero_le _,rfl,by rw[hC];rfl,.inl ⟨.inl rfl,rfl,rfl⟩,fun _=>rfl,by simp only[en,↓reduceIte,reduceEqDiff];simp,rfl⟩ ?_
 intro i E df G ih hP
 obtain⟨hi,E1,G0,E3,E3z,E4,hdf⟩:=hP
 subst hdf
 have G0':=G0
 rw[hC]at G0
 by_cases hik:i<k
 . have n1:dF f+(i:Int)<f.b:=by omega
   have w1:IntKind.i64.wrap (dF f+(i:Int)+1)=dF f+((i+1:Nat):Int):=by rw[wrap_i64 (by omega) (by omega)];omega
   have sn:=rngM_snoc (fun b=> !decide (b∈bl)) i (dF f)
   by_cases hp:dF f+i∈bl
   . have hm:decide (dF f+i∈bl)=true:=decide_eq_true hp
     rw[hm,Bool.not_true,if_neg Bool.false_ne_true,List.append_nil]at sn
     simp(disch:=omega)only[wk,tupled,↓reduceIte,reduceEqDiff,reduceEq,reduceAdd,reduceCtorEq,E1,E4,G0,n1,hs,hm,w1]
     refine ih (i+1) _ _ _ (by omega) ⟨hik,by simp only[en,↓reduceIte,reduceEqDiff,E1],G0', ?_, ?_,by simp only[en,↓reduceIte,reduceEqDiff],rfl⟩
     . rw[sn];simp only[en,↓reduceIte,reduceEqDiff];exact E3
     . rw[sn];simp only[en,↓reduceIte,reduceEqDiff];exact E3z
   . have hm:decide (dF f+i∈bl)=false:=decide_eq_false hp
     rw[hm,Bool.not_false,if_pos rfl]at sn
     have rl:=rngM_len (fun b=> !decide (b∈bl)) i (dF f)
     simp(disch:=omega)only[wk,tupled,↓reduceIte,reduceEqDiff,reduceEq,reduceAdd,reduceCtorEq,E1,E4,G0,n1,hs,hm,w1]
     refine runX_app E3 (by decide) (by omega) (by omega) (by decide) rfl rfl (fun H2 q1 q2 q3=> ?_)
     have G2:=q2.cells E3 rfl G0' (by intro s h;cases h)
     simp(disch:=omega)only[wk,tupled,↓reduceIte,reduceEqDiff,reduceEq,reduceAdd,reduceCtorEq,E1,E4,w1]
     refine ih (i+1) _ _ _ (by omega) ⟨hik,by simp only[en,↓reduceIte,reduceEqDiff,E1],G2, ?_, ?_,by simp only[en,↓reduceIte,reduceEqDiff],rfl⟩
     . simp only[en,↓reduceIte,reduceEqDiff]
       rw[sn]
       unfold OwnI
       rw[List.length_append,encs_append]
       exact q1
     . rw[sn];intro h;simp at h
 . have e:i=k:=by omega
   subst e
   have n1:¬dF f+(i:Int)<f.b:=by omega
   simp(disch:=omega)only[wk,tupled,↓reduceIte,reduceEqDiff,reduceEq,reduceAdd,reduceCtorEq,E1,E4,G0,n1]
   exact purify_row (fun _=>rfl) E3 (fun h s n c e=>by rw[E3z h]at e;cases e)
theorem rInode_px {f:Frm} {rt:Tv} {ns bl rl:List Int} {bv rv:AV} (I:Img f rt ns bl rl bv rv) (H:Heap):
   pcx (cbL tab) 30 [.agg (imgC f (mkT rt ns) bv rv)] H=some (.plain (.int .i64 (freeM (mkT rt ns) f.i.toNat 1))):=by
 have hon:pcOn c30 [.agg (imgC f (mkT rt ns) bv rv)]=true:=by
   simp only[pcOn,List.map_cons,List.map_nil,I.lend,c30]
   exact I.hf
 have o1:=I.b.one
 have o2:=I.r.one
 have li:=I.lend
 have fr:=fun H=>free_px f I.fo (mkT_ok I.ro ns) (by unfold mkT;have:=I.j.len;have:=I.j.few;simp;omega) (tk:= .ro) (.inl rfl) H
 refine pcx_N rfl (pc_wp (fi:=c30) rfl hon (by simp[c30]) (by decide) ?_)
 unfold c30
 rw[List.map_cons,List.map_nil,li]
 clear hon li I
 generalize mkT rt ns=T at*
 unfold imgC
 rw[stC_eq]at fr
 simp(disch:=omega)only[wk,tupled,↓reduceIte,reduceEqDiff,reduceEq,reduceAdd,reduceCtorEq,o1,o2,fr,purify,unownT,lend,unown,AV.hf,hfL]
theorem freeM_rng (T:List Tv):∀(k:Nat) (n:Int),freeM T k n=(rngM (fun n=>decide (findM T n 0<0)) n k).headD 0
 |0,_=>rfl
 | k+1,n=>by
   rw[freeM,rngM]
   by_cases h:findM T n 0<0
   . rw[if_pos h,if_pos (decide_eq_true h)];rfl
   . rw[if_neg h,if_neg (by simpa using h),freeM_rng T k (n+1)]
theorem rRecord_px {f:Frm} {rt:Tv} {ns bl rl:List Int} {bv rv:AV} (I:Img f rt ns bl rl bv rv) (H:Heap):
   pcx (cbL tab) 31 [.agg (imgC f (mkT rt ns) bv rv)] H=some (.plain (.int .i64 ((rngM (fun n=> !decide (n∈rl)) 1 f.r.toNat).headD 0))):=by
 have hs:=fun x H=>has_px I.r (by have:=I.lr;omega) x H
 have hon:pcOn c31 [.agg (imgC f (mkT rt ns) bv rv)]=true:=by
   simp only[pcOn,List.map_cons,List.map_nil,I.lend,c31]
   exact I.hf
 have o1:=I.b.one
 have o2:=I.r.one
 have li:=I.lend
 have hf:=I.fo
 unfold okF at hf
 refine pcx_N rfl (pc_wp (fi:=c31) rfl hon (by simp[c31]) (by decide) ?_)
 unfold c31
 rw[List.map_cons,List.map_nil,li]
 clear hon li I
 generalize mkT rt ns=T at*
 have im:imgC f T bv rv=[.int .i64 f.b,.int .i64 f.i,.int .i64 f.r,.int .i64 f.t,.int .u64 5,.int .u64 6,.int .i64 9,.int .i64 (9+f.i/4),.int .i64 (9+f.i/4+f.r/4),.int .i64 (dF f),.sl 7 T.length (encs tvC T) .ro,bv,rv]:=rfl
 obtain⟨k,hk⟩:∃k,k=f.r.toNat:=⟨_,rfl⟩
 have hdk:(k:Int)=f.r:=by omega
 rw[<-hk]
 obtain⟨R,hR⟩:∃R,R=(rngM (fun n=> !decide (n∈rl)) 1 k).headD 0:=⟨_,rfl⟩
 rw[<-hR]
 rw[im]
 simp(disch:=omega)only[wk,tupled,↓reduceIte,reduceEqDiff,reduceEq,reduceAdd,reduceCtorEq,o1,o2]
 refine loop_ind (fun(i:Nat) E df G=>i<=k/\E 1= .ptr 0 0/\G=[.cells [.int .i64 f.b,.int .i64 f.i,.int .i64 f.r,.int .i64 f.t,.int .u64 5,.int .u64 6,.int .i64 9,.int .i64 (9+f.i/4),.int .i64 (9+f.i/4+f.r/4),.int .i64 (dF f),.sl 7 T.length (encs tvC T) .ro,bv,rv]]/\R=(rngM (fun n=> !decide (n∈rl)) (1+i) (k-i)).headD 0/\E 3= .int .i64 (1+i)/\df=[])
   (fun i=>k-i) 0 (by decide) (.inl rfl) ⟨Nat.zero_le _,rfl,rfl,hR,rfl,rfl⟩ ?_
 intro i E df G ih hP
 obtain⟨hi,E1,hG,hRi,E3,hdf⟩:=hP
 subst hdf hG
 by_cases hik:i<k
 . have n1:1+(i:Int)<=f.r:=by omega
   have w1:IntKind.i64.wrap (1+(i:Int)+1)=1+((i+1:Nat):Int):=by rw[wrap_i64 (by omega) (by omega)];omega
   rw[show k-i=(k-(i+1))+1 by omega,rngM]at hRi
   by_cases hp:1+(i:Int)∈rl
   . have hm:decide (1+(i:Int)∈rl)=true:=decide_eq_true hp
     rw[hm,Bool.not_true,if_neg Bool.false_ne_true]at hRi
     simp(disch:=omega)only[wk,tupled,↓reduceIte,reduceEqDiff,reduceEq,reduceAdd,reduceCtorEq,E1,E3,n1,hs,hm,w1]
     refine ih (i+1) _ _ _ (by omega) ⟨hik,by simp only[en,↓reduceIte,reduceEqDiff,E1],rfl, ?_,by simp only[en,↓reduceIte,reduceEqDiff],rfl⟩
     rw[show(1:Int)+((i+1:Nat):Int)=1+(i:Int)+1 by omega];exact hRi
   . have hm:decide (1+(i:Int)∈rl)=false:=decide_eq_false hp
     rw[hm,Bool.not_false,if_pos rfl,List.headD_cons]at hRi
     rw[hRi]
     simp(disch:=omega)only[wk,tupled,↓reduceIte,reduceEqDiff,reduceEq,reduceAdd,reduceCtorEq,E1,E3,n1,hs,hm,w1,purify,unownT,lend,unown,AV.hf,hfL]
 . have e:i=k:=by omega
   subst e
   have n1:¬1+(i:Int)<=f.r:=by omega
   rw[Nat.sub_self,rngM,List.headD_nil]at hRi
   rw[hRi]
   simp(disch:=omega)only[wk,tupled,↓reduceIte,reduceEqDiff,reduceEq,reduceAdd,reduceCtorEq,E1,E3,n1,purify,unownT,lend,unown,AV.hf,hfL]
theorem rec1_ic {G:Heap} {f:Frm} {T:List Tv} {rl:List Int} {bv rv:AV} (hr:IntR rl rv) (hl:rl.length<=100000) {vb:Nat} (h:G[vb]? =some (.cells (imgC f T bv rv))) (x:Int):
   (cbL tab).ic 57 [.int .i64 x,.ptr vb 0] G=some (.ret (.bool (!decide (x∈rl))),G):=by
 have cp:=fun H=>containsI_px hr hl x H
 have:=ic_wp (tab:=tab) (f:=57) (fi:=c57) (args:=[.int .i64 x,.ptr vb 0]) (H:=G) (P:=fun o G'=>o= .ret (.bool (!decide (x∈rl)))/\G'=G) rfl rfl (by simp[c57]) (by decide) ?_
 . obtain⟨o,G',e1,rfl,rfl⟩:=this
   exact e1
 unfold c57
 have im:imgC f T bv rv=[.int .i64 f.b,.int .i64 f.i,.int .i64 f.r,.int .i64 f.t,.int .u64 5,.int .u64 6,.int .i64 9,.int .i64 (9+f.i/4),.int .i64 (9+f.i/4+f.r/4),.int .i64 (dF f),.sl 7 T.length (encs tvC T) .ro,bv,rv]:=rfl
 rw[im]at h
 cases hm:decide (x∈rl)<;>rw[hm]at cp<;>simp(disch:=omega)only[wk,tupled,↓reduceIte,reduceEqDiff,reduceEq,reduceAdd,reduceCtorEq,h,cp,Bool.not_true,Bool.not_false]
theorem ino11_ic {G:Heap} {t:Tv} (ht:t.ok) {n:Int} {nb:Nat} (h:G[nb]? =some (.cells [.int .i64 n])):
   (cbL tab).ic 56 [.agg (tvC t),.ptr nb 0] G=some (.ret (.bool (decide (t.n=n))),G++[.cells (tvC t)]):=by
 have:=ic_wp (tab:=tab) (f:=56) (fi:=c56) (args:=[.agg (tvC t),.ptr nb 0]) (H:=G) (P:=fun o G'=>o= .ret (.bool (decide (t.n=n)))/\G'=G++[.cells (tvC t)]) rfl rfl (by simp[c56]) (by decide) ?_
 . obtain⟨o,G',e1,rfl,rfl⟩:=this
   exact e1
 unfold c56
 have hb:nb<G.length:=(List.getElem?_eq_some_iff.1 h).1
 have g0:∀L:List AObj,(G++L)[G.length]? =L[0]? :=fun L=>by rw[List.getElem?_append_right (Nat.le_refl _),Nat.sub_self]
 have gn:∀L:List AObj,(G++L)[nb]? =some (.cells [.int .i64 n]):=fun L=>by rw[List.getElem?_append_left hb];exact h
 have o1:=ht.b.one
 have o2:=ht.n.one
 have ut:tvC t=[.int .i64 t.n,.int .i64 t.k,.int .i64 t.l,t.bv,.int .i64 t.p,t.nv,.str (ByteArray.mk (Array.mk []))]:=rfl
 rw[ut]
 by_cases e:t.n=n
 . rw[decide_eq_true e]
   simp(disch:=omega)only[wk,tupled,↓reduceIte,reduceEqDiff,reduceEq,reduceAdd,reduceCtorEq,o1,o2,g0,gn,e]
 . rw[decide_eq_false e]
   simp(disch:=omega)only[wk,tupled,↓reduceIte,reduceEqDiff,reduceEq,reduceAdd,reduceCtorEq,o1,o2,g0,gn,e]
theorem indexf_ic {T:List Tv} (hT:okT T) (hl:T.length<=1000) {n:Int} {nb:Nat} {G:Heap} (h:G[nb]? =some (.cells [.int .i64 n])):
   ∃L,(cbL tab).ic 84 [.sl 7 T.length (encs tvC T) .ro,.fn 56 [.ptr nb 0]] G=some (.ret (.int .i64 (findM T n 0)),G++L):=by
 have:=ic_wp (tab:=tab) (f:=84) (fi:=c84) (args:=[.sl 7 T.length (encs tvC T) .ro,.fn 56 [.ptr nb 0]]) (H:=G) (P:=fun o G'=>o= .ret (.int .i64 (findM T n 0))/\∃L,G'=G++L) rfl (by
   show(hfL [lend (.sl 7 T.length (encs tvC T) .ro),.fn 56 [.ptr nb 0]])=false
   simp[hfL,AV.hf]) (by simp[c84]) (by decide) ?_
 . obtain⟨o,G',e1,rfl,L,rfl⟩:=this
   exact⟨L,e1⟩
 unfold c84
 have hb:nb<G.length:=(List.getElem?_eq_some_iff.1 h).1
 have pn:∀a b H,pcx (cbL tab) 56 [a,b] H=none:=fun a b H=>pcx_none rfl (pc_none (fi:=c56) rfl rfl)
 have ll:(cbL tab).lent 56=false:=rfl
 simp(disch:=omega)only[wk,tupled,↓reduceIte,reduceEqDiff,reduceEq,reduceAdd,reduceCtorEq]
 refine loop_ind (fun(y:List Tv×List Tv) E df G'=>T=y.1++y.2/\findM T n 0=findM y.2 n (y.1.length:Nat)/\E 0= .sl 7 T.length (encs tvC T) .ro/\E 1= .fn 56 [.ptr nb 0]/\E 7= .int .i64 ((T.length:Nat):Int)/\E 8= .int .i64 ((y.1.length:Nat):Int)/\df=[]/\∃L,G'=G++L)
   (fun y=>y.2.length) ([],T) (by decide) (.inl rfl) ⟨rfl,rfl,rfl,rfl,rfl,rfl,rfl,[],by simp⟩ ?_
 intro ⟨pre,suf⟩ E df G' ih hP
 obtain⟨a1,a2,E0,E1,E7,E8,hdf,L,hG⟩:=hP
 dsimp only at a1 a2 E8
 subst hdf
 have la:T.length=pre.length+suf.length:=by rw[a1,List.length_append]
 cases suf with
 | nil=>
   have n1:¬(pre.length:Int)<(T.length:Int):=by rw[la];simp
   simp(disch:=omega)only[wk,tupled,↓reduceIte,reduceEqDiff,reduceEq,reduceAdd,reduceCtorEq,E0,E1,E7,E8,n1]
   rw[a2]
   exact⟨rfl,L,hG⟩
 | cons t r=>
   rw[List.length_cons]at la
   have n1:(pre.length:Int)<(T.length:Int):=by omega
   have d1:=tv_drop pre t r
   rw[<-a1]at d1
   have ic:=ino11_ic (hT t (by rw[a1];simp)) (n:=n) (nb:=nb) (G:=G') (by rw[hG,List.getElem?_append_left hb];exact h)
   have ut:tvC t=[.int .i64 t.n,.int .i64 t.k,.int .i64 t.l,t.bv,.int .i64 t.p,t.nv,.str (ByteArray.mk (Array.mk []))]:=rfl
   rw[ut]at ic
   rw[findM]at a2
   by_cases e:t.n=n
   . rw[if_pos e]at a2
     rw[decide_eq_true e]at ic
     simp(disch:=omega)only[wk,tupled,↓reduceIte,reduceEqDiff,reduceEq,reduceAdd,reduceCtorEq,E0,E1,E7,E8,n1,d1,pn,runE_none ll,ic]
     rw[a2]
     exact⟨rfl,L++_,by rw[hG,List.append_assoc]⟩
   . rw[if_neg e]at a2
     rw[decide_eq_false e]at ic
     simp(disch:=omega)only[wk,tupled,↓reduceIte,reduceEqDiff,reduceEq,reduceAdd,reduceCtorEq,E0,E1,E7,E8,n1,d1,pn,runE_none ll,ic]
     exact ih (pre++[t],r) _ _ _ (by simp) ⟨by simp[a1],by dsimp only;rw[a2];simp,by simp only[en,↓reduceIte,reduceEqDiff,E0],by simp only[en,↓reduceIte,reduceEqDiff,E1],by simp only[en,↓reduceIte,reduceEqDiff,E7],by simp only[en,↓reduceIte,reduceEqDiff],rfl,L++_,by rw[hG,List.append_assoc]⟩
theorem containsf_ic {T:List Tv} (hT:okT T) (hl:T.length<=1000) {n:Int} {nb:Nat} {G:Heap} (h:G[nb]? =some (.cells [.int .i64 n])):
   ∃L,(cbL tab).ic 55 [.sl 7 T.length (encs tvC T) .ro,.fn 56 [.ptr nb 0]] G=some (.ret (.bool (decide (0<=findM T n 0))),G++L):=by
 obtain⟨L,hL⟩:=indexf_ic hT hl h
 have:=ic_wp (tab:=tab) (f:=55) (fi:=c55) (args:=[.sl 7 T.length (encs tvC T) .ro,.fn 56 [.ptr nb 0]]) (H:=G) (P:=fun o G'=>o= .ret (.bool (decide (0<=findM T n 0)))/\G'=G++L) rfl (by
   show(hfL [lend (.sl 7 T.length (encs tvC T) .ro),.fn 56 [.ptr nb 0]])=false
   simp[hfL,AV.hf]) (by simp[c55]) (by decide) ?_
 . obtain⟨o,G',e1,rfl,rfl⟩:=this
   exact⟨L,e1⟩
 unfold c55
 have pn:∀a q H,pcx (cbL tab) 84 [a,.fn 56 [.ptr q 0]] H=none:=fun a q H=>pcx_none rfl (pc_none (fi:=c84) rfl (by
   show hfL [lend a,_]=false
   simp[hfL,AV.hf,lend,unown]))
 have ll:(cbL tab).lent 84=false:=rfl
 simp(disch:=omega)only[wk,tupled,↓reduceIte,reduceEqDiff,reduceEq,reduceAdd,reduceCtorEq,pn,runE_none ll,hL]
theorem ino1_ic {G:Heap} {f:Frm} {T:List Tv} (hT:okT T) (hl:T.length<=1000) {bv rv:AV} {vb:Nat} (h:G[vb]? =some (.cells (imgC f T bv rv))) (x:Int):
   ∃L,(cbL tab).ic 54 [.int .i64 x,.ptr vb 0] G=some (.ret (.bool (!decide (0<=findM T x 0))),G++L):=by
 have g0:∀L:List AObj,(G++L)[G.length]? =L[0]? :=fun L=>by rw[List.getElem?_append_right (Nat.le_refl _),Nat.sub_self]
 have hb:vb<G.length:=(List.getElem?_eq_some_iff.1 h).1
 obtain⟨L,hL⟩:=containsf_ic hT hl (n:=x) (nb:=G.length) (G:=G++[.cells [.int .i64 x]]) (by rw[g0];rfl)
 have:=ic_wp (tab:=tab) (f:=54) (fi:=c54) (args:=[.int .i64 x,.ptr vb 0]) (H:=G) (P:=fun o G'=>o= .ret (.bool (!decide (0<=findM T x 0)))/\G'=G++([.cells [.int .i64 x]]++L)) rfl rfl (by simp[c54]) (by decide) ?_
 . obtain⟨o,G',e1,rfl,rfl⟩:=this
   exact⟨_,e1⟩
 unfold c54
 have im:imgC f T bv rv=[.int .i64 f.b,.int .i64 f.i,.int .i64 f.r,.int .i64 f.t,.int .u64 5,.int .u64 6,.int .i64 9,.int .i64 (9+f.i/4),.int .i64 (9+f.i/4+f.r/4),.int .i64 (dF f),.sl 7 T.length (encs tvC T) .ro,bv,rv]:=rfl
 rw[im]at h
 have gv:∀L:List AObj,(G++L)[vb]? =some (.cells [.int .i64 f.b,.int .i64 f.i,.int .i64 f.r,.int .i64 f.t,.int .u64 5,.int .u64 6,.int .i64 9,.int .i64 (9+f.i/4),.int .i64 (9+f.i/4+f.r/4),.int .i64 (dF f),.sl 7 T.length (encs tvC T) .ro,bv,rv]):=fun L=>by rw[List.getElem?_append_left hb];exact h
 have pn:∀a q H,pcx (cbL tab) 55 [a,.fn 56 [.ptr q 0]] H=none:=fun a q H=>pcx_none rfl (pc_none (fi:=c55) rfl (by
   show hfL [lend a,_]=false
   simp[hfL,AV.hf,lend,unown]))
 have ll:(cbL tab).lent 55=false:=rfl
 cases hm:decide (0<=findM T x 0)<;>rw[hm]at hL<;>simp(disch:=omega)only[wk,tupled,↓reduceIte,reduceEqDiff,reduceEq,reduceAdd,reduceCtorEq,g0,gv,pn,runE_none ll,hL,Bool.not_true,Bool.not_false,List.append_assoc]
theorem OwnI.shape {G:Heap} {v:AV} {l:List Int} (h:OwnI G v l):∃s tk,v= .sl s l.length (encs i64A l) tk/\(l≠[]->s=1):=by
 rcases h with⟨h1,h2,h3⟩|⟨h0,g,rfl,hg⟩
 . have:l=[]:=List.length_eq_zero_iff.1 h2
   subst this
   rcases h1 with rfl|rfl
   . exact⟨_,_,rfl,fun h=>absurd rfl h⟩
   . exact⟨_,_,rfl,fun _=>rfl⟩
 . exact⟨_,_,rfl,fun _=>rfl⟩
theorem sRecord_px {f:Frm} {rt:Tv} {ns bl rl:List Int} {bv rv:AV} (I:Img f rt ns bl rl bv rv) (H:Heap):
   pcx (cbL tabR) 26 [.agg (imgC f (mkT rt ns) bv rv)] H=some (.plain (if okI f bl rl then .tup [.int .i64 ((rngM (fun n=> !decide (n∈rl)) 1 f.r.toNat).headD 0),.int .i64 (if rngM (fun n=> !decide (n∈rl)) 1 f.r.toNat=[] then 5 else 0)] else .tup [.int .i64 0,.int .i64 2])):=by
 have so:=fun H=>sof_px I H
 have hon:pcOn c26 [.agg (imgC f (mkT rt ns) bv rv)]=true:=by
   simp only[pcOn,List.map_cons,List.map_nil,I.lend,c26]
   exact I.hf
 have o1:=I.b.one
 have o2:=I.r.one
 have li:=I.lend
 have hf:=I.fo
 unfold okF at hf
 have hT:=mkT_ok I.ro ns
 have lT:(mkT rt ns).length<=1000:=by unfold mkT;have:=I.j.len;have:=I.j.few;simp;omega
 refine pcx_N rfl (pc_wp (fi:=c26) rfl hon (by simp[c26]) (by decide) ?_)
 unfold c26
 rw[List.map_cons,List.map_nil,li]
 cases ok:okI f bl rl with
 | false=>
   simp only[Bool.false_eq_true,if_false]
   rw[ok]at so
   simp only[Bool.false_eq_true,if_false]at so
   clear hon li
   generalize mkT rt ns=T at*
   unfold imgC z13 at*
   simp(disch:=omega)only[wk,tupled,↓reduceIte,reduceEqDiff,reduceEq,reduceAdd,reduceCtorEq,so,o1,o2]
   rfl
 | true=>
   simp only[if_true]
   rw[ok]at so
   simp only[if_true]at so
   obtain⟨C,hC⟩:∃C:List AObj,C=[.cells (imgC f (mkT rt ns) bv rv),.cells (imgC f (mkT rt ns) bv rv)]:=⟨_,rfl⟩
   obtain⟨k,hk⟩:∃k,k=f.r.toNat:=⟨_,rfl⟩
   have hk2:(k:Int)=f.r:=by omega
   rw[<-hk]
   obtain⟨v,G',s1,s2,s3⟩:=such_ic (H:=C) (fn:=57) (cap:=[.ptr 1 0]) (P:=fun n=> !decide (n∈rl)) (a:=1) (k:=k) (by decide) (by omega) rfl
     (fun x G' h1 h2 h3=>by
       have g1:G'[1]? =some (.cells (imgC f (mkT rt ns) bv rv)):=by rw[h3 1 (by rw[hC];simp),hC];rfl
       exact⟨[],by rw[List.append_nil];exact toRi (rec1_ic I.r (by have:=I.lr;omega) g1 x)⟩)
     rfl (fun x G=>pcx_none rfl (pc_none (fi:=c57) rfl rfl))
   have w1:IntKind.i64.wrap (f.r+1)=1+(k:Int):=by rw[wrap_i64 (by omega) (by omega)];omega
   generalize hL:rngM (fun n=> !decide (n∈rl)) 1 k=L at*
   obtain⟨s,tk,rfl,hs⟩:=s2.shape
   have lp:=fun H=>toR (least_px L (tk:=tk) hs H)
   have ps:∀(x y:AV) (f:FuncId) (q:Nat) (H:Heap),pcx (cbL tabR) 45 [x,y,.fn f [.ptr q 0]] H=none:=fun x y f q H=>pcx_none rfl (pc_none (fi:=c45) rfl (by
     show hfL [lend x,lend y,_]=false
     simp[hfL,AV.hf,lend,unown]))
   have l2:(cbL tabR).lent 45=false:=rfl
   clear hon li I
   generalize mkT rt ns=T at*
   have im:imgC f T bv rv=[.int .i64 f.b,.int .i64 f.i,.int .i64 f.r,.int .i64 f.t,.int .u64 5,.int .u64 6,.int .i64 9,.int .i64 (9+f.i/4),.int .i64 (9+f.i/4+f.r/4),.int .i64 (dF f),.sl 7 T.length (encs tvC T) .ro,bv,rv]:=rfl
   rw[im]at so hC ⊢
   rw[hC]at s1
   have pr:∀(a b:Int) H,purify (some (.ret (.tup [.int .i64 a,.int .i64 b]),H))=some (.plain (.tup [.int .i64 a,.int .i64 b])):=fun a b H=>rfl
   simp(disch:=omega)only[wk,tupled,↓reduceIte,reduceEqDiff,reduceEq,reduceAdd,reduceCtorEq,so,o1,o2,w1,ps,runE_none l2,s1,lp,pr]
theorem sInode_px {f:Frm} {rt:Tv} {ns bl rl:List Int} {bv rv:AV} (I:Img f rt ns bl rl bv rv) (H:Heap):
   pcx (cbL tabR) 25 [.agg (imgC f (mkT rt ns) bv rv)] H=some (.plain (if okI f bl rl then .tup [.int .i64 ((rngM (fun n=> !decide (0<=findM (mkT rt ns) n 0)) 1 f.i.toNat).headD 0),.int .i64 (if rngM (fun n=> !decide (0<=findM (mkT rt ns) n 0)) 1 f.i.toNat=[] then 5 else 0)] else .tup [.int .i64 0,.int .i64 2])):=by
 have so:=fun H=>sof_px I H
 have hon:pcOn c25 [.agg (imgC f (mkT rt ns) bv rv)]=true:=by
   simp only[pcOn,List.map_cons,List.map_nil,I.lend,c25]
   exact I.hf
 have o1:=I.b.one
 have o2:=I.r.one
 have li:=I.lend
 have hf:=I.fo
 unfold okF at hf
 have hT:=mkT_ok I.ro ns
 have lT:(mkT rt ns).length<=1000:=by unfold mkT;have:=I.j.len;have:=I.j.few;simp;omega
 refine pcx_N rfl (pc_wp (fi:=c25) rfl hon (by simp[c25]) (by decide) ?_)
 unfold c25
 rw[List.map_cons,List.map_nil,li]
 cases ok:okI f bl rl with
 | false=>
   simp only[Bool.false_eq_true,if_false]
   rw[ok]at so
   simp only[Bool.false_eq_true,if_false]at so
   clear hon li
   generalize mkT rt ns=T at*
   unfold imgC z13 at*
   simp(disch:=omega)only[wk,tupled,↓reduceIte,reduceEqDiff,reduceEq,reduceAdd,reduceCtorEq,so,o1,o2]
   rfl
 | true=>
   simp only[if_true]
   rw[ok]at so
   simp only[if_true]at so
   obtain⟨C,hC⟩:∃C:List AObj,C=[.cells (imgC f (mkT rt ns) bv rv),.cells (imgC f (mkT rt ns) bv rv)]:=⟨_,rfl⟩
   obtain⟨k,hk⟩:∃k,k=f.i.toNat:=⟨_,rfl⟩
   have hk2:(k:Int)=f.i:=by omega
   rw[<-hk]
   obtain⟨v,G',s1,s2,s3⟩:=such_ic (H:=C) (fn:=54) (cap:=[.ptr 1 0]) (P:=fun n=> !decide (0<=findM (mkT rt ns) n 0)) (a:=1) (k:=k) (by decide) (by omega) rfl
     (fun x G' h1 h2 h3=>by
       have g1:G'[1]? =some (.cells (imgC f (mkT rt ns) bv rv)):=by rw[h3 1 (by rw[hC];simp),hC];rfl
       obtain⟨L,hL⟩:=ino1_ic hT lT g1 x
       exact⟨L,toRi hL⟩)
     rfl (fun x G=>pcx_none rfl (pc_none (fi:=c54) rfl rfl))
   have w1:IntKind.i64.wrap (f.i+1)=1+(k:Int):=by rw[wrap_i64 (by omega) (by omega)];omega
   generalize hL:rngM (fun n=> !decide (0<=findM (mkT rt ns) n 0)) 1 k=L at*
   obtain⟨s,tk,rfl,hs⟩:=s2.shape
   have lp:=fun H=>toR (least_px L (tk:=tk) hs H)
   have ps:∀(x y:AV) (f:FuncId) (q:Nat) (H:Heap),pcx (cbL tabR) 45 [x,y,.fn f [.ptr q 0]] H=none:=fun x y f q H=>pcx_none rfl (pc_none (fi:=c45) rfl (by
     show hfL [lend x,lend y,_]=false
     simp[hfL,AV.hf,lend,unown]))
   have l2:(cbL tabR).lent 45=false:=rfl
   clear hon li I
   generalize mkT rt ns=T at*
   have im:imgC f T bv rv=[.int .i64 f.b,.int .i64 f.i,.int .i64 f.r,.int .i64 f.t,.int .u64 5,.int .u64 6,.int .i64 9,.int .i64 (9+f.i/4),.int .i64 (9+f.i/4+f.r/4),.int .i64 (dF f),.sl 7 T.length (encs tvC T) .ro,bv,rv]:=rfl
   rw[im]at so hC ⊢
   rw[hC]at s1
   have pr:∀(a b:Int) H,purify (some (.ret (.tup [.int .i64 a,.int .i64 b]),H))=some (.plain (.tup [.int .i64 a,.int .i64 b])):=fun a b H=>rfl
   simp(disch:=omega)only[wk,tupled,↓reduceIte,reduceEqDiff,reduceEq,reduceAdd,reduceCtorEq,so,o1,o2,w1,ps,runE_none l2,s1,lp,pr]
end Go.Proofs.YtephfpdnhdpmkaaGreatDoor
namespace Go.Proofs.YtephfpdnhdpmkaaGreatDoor
open Go Go.Am Go.Spc
def imgK (f:Frm) (k0 k1:Int) (T:List Tv) (bv rv:AV):List AV:=[.int .i64 f.b,.int .i64 f.i,.int .i64 f.r,.int .i64 f.t,.int .u64 k0,.int .u64 k1,.int .i64 9,.int .i64 (9+f.i/4),.int .i64 (9+f.i/4+f.r/4),.int .i64 (9+f.i/4+f.r/4+1),.sl 7 T.length (encs tvC T) .ro,bv,rv]
theorem lendK_img {f:Frm} {rt:Tv} {ns bl rl:List Int} {bv rv:AV} (I:Img f rt ns bl rl bv rv) {k0 k1:Int}:lend (.agg (imgK f k0 k1 (mkT rt ns) bv rv))= .agg (imgK f k0 k1 (mkT rt ns) bv rv):=by
 show AV.agg [_,_,_,_,_,_,_,_,_,_,_,unown bv,unown rv]=_
 rw[I.b.un,I.r.un];rfl
theorem hfK_img {f:Frm} {rt:Tv} {ns bl rl:List Int} {bv rv:AV} (I:Img f rt ns bl rl bv rv) {k0 k1:Int}:hfL [.agg (imgK f k0 k1 (mkT rt ns) bv rv)]=true:=by
 have hhT:=okT_hf (mkT_ok I.ro ns)
 simp[imgK,hfL,AV.hf,hhT,I.b.hf,I.r.hf,Tk.hf]
theorem imgK_pic {k0 k1:Int} {f:Frm} {T:List Tv} (hT:okT T) (hu:T.map un=T) {bl rl:List Int} {bv rv:AV} (hb:IntR bl bv) (hr:IntR rl rv) (H:Heap):purD (some (.ret (.tup [.agg (imgK f k0 k1 T bv rv),.bool true]),H))=some (.plain (.tup [.agg (imgK f k0 k1 T bv rv),.bool true])):=by
 have hk:∀{l:List Int} {v:AV},IntR l v->deep1 (lendK H 3 v)=v:=by
   rintro l v ⟨s,tk,rfl,_,ht⟩
   have e:∀l:List Int,(encs i64A l).map unown=encs i64A l:=by
     intro l
     induction l with
     |nil=>rfl
     |cons x l ih=>rw[encs_cons,List.map_append,ih];rfl
   have e:=e l
   show unown (.sl s l.length ((encs i64A l).map unown) tk)=_
   rw[e]
   cases tk<;>first|rfl|cases ht
 have e1:picV H (.tup [.agg (imgK f k0 k1 T bv rv),.bool true])= .tup [.agg (imgK f k0 k1 T bv rv),.bool true]:=by
   have e:(AV.sl 7 T.length ((encs tvC T).map unown) .ro)= .sl 7 T.length (encs tvC T) .ro:=by rw[un_cells,hu]
   show AV.tup [.agg [_,_,_,_,_,_,_,_,_,_,.sl 7 T.length ((encs tvC T).map unown) .ro,deep1 (lendK H 3 bv),deep1 (lendK H 3 rv)],.bool true]=_
   rw[e,hk hb,hk hr];rfl
 simp only[purD,e1]
 rw[if_pos]
 have h1:=okT_hf hT
 have h2:=hb.hf
 have h3:=hr.hf
 simp[AV.hf,hfL,imgK,h1,h2,h3]
 rfl
theorem sofK_px {f:Frm} {rt:Tv} {ns bl rl:List Int} {bv rv:AV} (I:Img f rt ns bl rl bv rv) {k0 k1:Int} (u0:U64 k0) (u1:U64 k1) (hk:rt.nm=[]∨k0=5/\k1=6) (H:Heap):
   pcx (cbL tabR) 38 [.agg (imgK f k0 k1 (mkT rt ns) bv rv)] H=some (.plain (.tup [.agg (if okI f bl rl=true then imgK f k0 k1 (mkT rt ns) bv rv else z13),.bool (okI f bl rl)])):=by
 have hf:=I.fo
 refine pcx_N rfl (pc_wp6 (fi:=c38) rfl ?_ (by simp[c38]) (by decide) ?_)
 . simp only[pcOn,List.map_cons,List.map_nil,(lendK_img I),c38]
   exact hfK_img I
 unfold c38
 rw[List.map_cons,List.map_nil,(lendK_img I)]
 have r1:=fun a b H=>toR (srising_px I.b (by have:=I.lb;omega) a b H)
 have r2:=fun a b H=>toR (srising_px I.r (by have:=I.lr;omega) a b H)
 have o1:=I.b.one
 have o2:=I.r.one
 have wr:IntKind.i64.wrap (f.r+1)=f.r+1:=by obtain⟨_,_,_,_,_,x1,x2,_⟩:=hf;exact wrap_i64 (by omega) (by omega)
 have pd1:=fun H=>imgK_pic (k0:=k0) (k1:=k1) (mkT_ok I.ro ns) (mkT_un I.ro ns) I.b I.r (f:=f) H
 have mo:=fun H=>mOf_ic hf I.ro I.j (k0:=k0) (k1:=k1) u0 u1 hk H
 have pn:∀(v w:AV) (H:Heap),pcx (cbL tabR) 72 [v,w] H=none:=fun v w H=>pcx_none rfl (pc_none (fi:=c72) rfl rfl)
 have ll:(cbL tabR).lent 72=false:=rfl
 generalize mkT rt ns=T at*
 have la:layA f k0 k1=[.int .i64 f.b,.int .i64 f.i,.int .i64 f.r,.int .i64 f.t,.int .u64 k0,.int .u64 k1,.int .i64 9,.int .i64 (9+f.i/4),.int .i64 (9+f.i/4+f.r/4),.int .i64 (9+f.i/4+f.r/4+1)]:=rfl
 have im:imgK f k0 k1 T bv rv=[.int .i64 f.b,.int .i64 f.i,.int .i64 f.r,.int .i64 f.t,.int .u64 k0,.int .u64 k1,.int .i64 9,.int .i64 (9+f.i/4),.int .i64 (9+f.i/4+f.r/4),.int .i64 (9+f.i/4+f.r/4+1),.sl 7 T.length (encs tvC T) .ro,bv,rv]:=rfl
 rw[la]at mo
 rw[im]at pd1 ⊢
 unfold okI z13
 obtain⟨G,mg,mk⟩:=mo [.cells (imgK f k0 k1 T bv rv),.cells z13]
 rw[im]at mg mk
 unfold z13 at mg mk
 have m0:=mk 0 (by simp)
 have m1:=mk 1 (by simp)
 simp only[List.getElem?_cons_zero,List.getElem?_cons_succ]at m0 m1
 have gs:∀o,(G.set 1 o)[1]? =some o:=fun o=>by rw[List.getElem?_set_self ((List.getElem?_eq_some_iff.1 m1).1)]
 have pz:∀H,purD (some (.ret (.tup [.agg [.int .i64 0,.int .i64 0,.int .i64 0,.int .i64 0,.int .u64 0,.int .u64 0,.int .i64 0,.int .i64 0,.int .i64 0,.int .i64 0,.sl 0 0 [] .z,.sl 0 0 [] .z,.sl 0 0 [] .z],.bool false]),H))=some (.plain (.tup [.agg [.int .i64 0,.int .i64 0,.int .i64 0,.int .i64 0,.int .u64 0,.int .u64 0,.int .i64 0,.int .i64 0,.int .i64 0,.int .i64 0,.sl 0 0 [] .z,.sl 0 0 [] .z,.sl 0 0 [] .z],.bool false])):=fun H=>rfl
 cases h1:risM (9+f.i/4+f.r/4+1) f.b none bl with
 | false=>
   simp(disch:=omega)only[wk,tupled,↓reduceIte,reduceEqDiff,reduceEq,reduceAdd,reduceCtorEq,pn,runE_none ll,mg,m0,m1,o1,o2,r1,r2,h1,wr,runG_un,gp_un,gs,Bool.and_self,Bool.and_false,Bool.false_and,Bool.and_true]
   rw[ret_scp_goto rfl]
   refine ret_again (by decide) (.inl rfl) ?_
   simp(disch:=omega)only[wk,tupled,↓reduceIte,reduceEqDiff,reduceEq,reduceAdd,reduceCtorEq,m1,gs,pz,Bool.false_and]
 | true=>
   cases h2:risM 1 (f.r+1) none rl with
   | false=>
     simp(disch:=omega)only[wk,tupled,↓reduceIte,reduceEqDiff,reduceEq,reduceAdd,reduceCtorEq,pn,runE_none ll,mg,m0,m1,o1,o2,r1,r2,h1,h2,wr,runG_un,gp_un,gs,Bool.and_self,Bool.and_false,Bool.false_and,Bool.and_true]
     rw[ret_scp_goto rfl]
     refine ret_again (by decide) (.inl rfl) ?_
     simp(disch:=omega)only[wk,tupled,↓reduceIte,reduceEqDiff,reduceEq,reduceAdd,reduceCtorEq,m1,gs,pz,Bool.and_false]
   | true=>
     simp(disch:=omega)only[wk,tupled,↓reduceIte,reduceEqDiff,reduceEq,reduceAdd,reduceCtorEq,pn,runE_none ll,mg,m0,m1,o1,o2,r1,r2,h1,h2,wr,runG_un,gp_un,gs,Bool.and_self,Bool.and_false,Bool.false_and,Bool.and_true,pd1]
end Go.Proofs.YtephfpdnhdpmkaaGreatDoor
namespace Go.Am
open Go
def eqL (p:AV->AV->Bool):List AV->List AV->Bool
 |[],[]=>true
 |a::r,b::s=>p a b&&eqL p r s
 |_,_=>false
def eqD:Nat->AV->AV->Bool
 |0,_,_=>false
 | n+1,a,b=>
   match a,b with
   | .sl s k cs tk,.sl s' k' ds tk'=>Nat.beq s s'&&(Nat.beq k k'&&(eqT tk tk'&&eqL (eqD n) cs ds))
   | .agg cs,.agg ds=>eqL (eqD n) cs ds
   |a,b=>eqS a b
theorem eqL_eq {p:AV->AV->Bool} (hp:∀a b,p a b=true->a=b):∀{a b:List AV},eqL p a b=true->a=b
 |[],[],_=>rfl
 | a::r,b::s,h=>by
   simp only[eqL,Bool.and_eq_true]at h
   rw[hp _ _ h.1,eqL_eq hp h.2]
 |[],_::_,h=>by cases h
 |_::_,[],h=>by cases h
theorem eqD_eq:∀(n:Nat) (a b:AV),eqD n a b=true->a=b
 |0,_,_,h=>by cases h
 | n+1,a,b,h=>by
   unfold eqD at h
   split at h
   . simp only[Bool.and_eq_true]at h
     rw[Nat.eq_of_beq_eq_true h.1,Nat.eq_of_beq_eq_true h.2.1,eqT_eq h.2.2.1,eqL_eq (eqD_eq n) h.2.2.2]
   . rw[eqL_eq (eqD_eq n) h]
   . exact eqS_eq h
end Go.Am
namespace Go.Proofs.YtephfpdnhdpmkaaGreatDoor
open Go Go.Am Go.Spc Go.Rec
def fW:Frm:=⟨32,8,16,8⟩
def blW:List Int:=[18,19,24,25,26,27,28,29,30,31]
def imgW:List AV:=[.int .i64 32,.int .i64 8,.int .i64 16,.int .i64 8,.int .u64 1,.int .u64 2,.int .i64 9,.int .i64 11,.int .i64 15,.int .i64 16,.sl 7 1 [.int .i64 1,.int .i64 2,.int .i64 1,.sl 0 0 [] .z,.int .i64 1,.sl 0 0 [] .z,.str (ByteArray.mk (Array.mk []))] .ro,.sl 1 10 [.int .i64 18,.int .i64 19,.int .i64 24,.int .i64 25,.int .i64 26,.int .i64 27,.int .i64 28,.int .i64 29,.int .i64 30,.int .i64 31] .ro,.sl 0 0 [] .z]
theorem sofW:(cbL tabR).pc 38 [.agg imgW]=some (.plain (.tup [.agg imgW,.bool true])):=by
 have I:Img fW rootZ [] blW [] (.sl 1 10 (encs i64A blW) .ro) (.sl 0 0 [] .z):=⟨by decide,rootZ_ok,JV.nil _ (by decide),⟨1,.ro,rfl,fun _=>rfl,rfl⟩,⟨0,.z,rfl,fun h=>absurd rfl h,rfl⟩,by decide,by decide,by decide⟩
 have h:=sofK_px I (k0:=1) (k1:=2) ⟨by decide,by decide⟩ ⟨by decide,by decide⟩ (.inl rfl) []
 have e:okI fW blW []=true:=by decide
 rw[e,if_pos rfl]at h
 rw[pcx_pc rfl]at h
 exact h
def knownW (f:FuncId) (args:List AV):Option PR:=if Nat.beq f 38&&eqL (eqD 5) [.agg imgW] (args.map lend)then some (.plain (.tup [.agg imgW,.bool true]))else none
theorem knownW_ok:∀f args r,knownW f args=some r->(cbL tabR).pc f args=some r:=by
 intro f args r h
 unfold knownW at h
 split at h
 . rename_i hc
   rw[Bool.and_eq_true]at hc
   cases h
   have hf:=Nat.eq_of_beq_eq_true hc.1
   have ha:=eqL_eq (eqD_eq 5) hc.2
   subst hf
   refine pc_lend1 rfl ?_
   rw[<-ha]
   exact sofW
 . cases h
theorem works_pc:(cbL tabR).pc 9 []=some (.plain (.bool true)):=pc_run knownW_ok 300 (by kernel_rfl)
theorem snum_px (e:Int) (H:Heap):pcx (cbL tabR) 14 [.int .i64 e] H=some (.plain (.int .i64 e)):=by
 refine toR (pcx_N rfl (pc_wp (fi:=c14) rfl rfl (by simp[c14]) (by decide) ?_))
 unfold c14
 rw[List.map_cons,List.map_nil,lend_int]
 simp(disch:=omega)only[wk,tupled,↓reduceIte,reduceEqDiff,reduceEq,reduceAdd,reduceCtorEq,purify,unownT,lend,unown,AV.hf,hfL]
theorem sworks_px (H:Heap):pcx (cbL tabR) 9 [] H=some (.plain (.bool true)):=pcx_N rfl works_pc
theorem toRp {f:FuncId} {args:List AV} {r:PR} (h:(cbL tab).pc f args=some r):(cbL tabR).pc f args=some r:=subR.pc _ _ _ h
theorem rngM_congr {P Q:Int->Bool}:∀(k:Nat) (a:Int),(∀x,a<=x->x<a+k->P x=Q x)->rngM P a k=rngM Q a k
 |0,_,_=>rfl
 | k+1,a,h=>by
   rw[rngM,rngM,h a (Int.le_refl _) (by omega),rngM_congr k (a+1) fun x h1 h2=>h x (by omega) (by omega)]
theorem rngM_ge {P:Int->Bool}:∀(k:Nat) (a:Int),∀x∈rngM P a k,a<=x/\x<a+k
 |0,_,x,h=>by cases h
 | k+1,a,x,h=>by
   rw[rngM]at h
   split at h
   . rcases List.mem_cons.1 h with rfl|h
     . omega
     . have:=rngM_ge k (a+1) x h;omega
   . have:=rngM_ge k (a+1) x h;omega
theorem freeL_eq {f:Frm} (bl:List Int) (h:0<=dF f):freeL f bl=rngM (fun b=> !decide (b∈bl)) (dF f) (f.b-dF f).toNat:=by
 refine rngM_congr _ _ fun x h1 h2=> ?_
 have:((x.toNat:Nat):Int)=x:=by omega
 unfold pB
 rw[this,decide_eq_false (by omega),Bool.false_or]
theorem imgOf {f:Frm} {bl rl fl:List Int} {bv rv:AV} (hb:IntR bl bv) (hr:IntR rl rv) (h:okU f bl rl fl) {rt:Tv} {ns:List Int} (h1:RootT rt) (h2:JV f rt.nm ns):Img f rt ns bl rl bv rv:=
 ⟨h.1,h1,h2,hb,hr,h.2.2.1,h.2.2.2.1,h.2.1⟩
theorem spaceFrees_pc {f:Frm} {bl rl fl:List Int} {bv rv fv:AV} (hb:IntR bl bv) (hr:IntR rl rv) (hfl:IntR fl fv):(cbL tabR).pc 7 [useA f bv rv fv]=some (.plain (.bool true)):=by
 have lu:lend (useA f bv rv fv)=useA f bv rv fv:=by
   show AV.agg [_,_,_,_,unown bv,unown rv,unown fv]=_
   rw[hb.un,hr.un,hfl.un];rfl
 obtain⟨r,m1,m2,m3⟩:=made_px hb hr hfl (f:=f)
 have mp:=fun H=>pcx_N (H:=H) (show(cbL tabR).lent 8=false from rfl) (toRp m1)
 have ob:=hb.one
 have orr:=hr.one
 have of:=hfl.one
 refine pc_wp (fi:=c7) rfl ?_ (by simp[c7]) (by decide) ?_
 . simp only[pcOn,List.map_cons,List.map_nil,lu,c7]
   simp only[useA,hfL,AV.hf,hb.hf,hr.hf,hfl.hf,Bool.and_self]
 unfold c7
 rw[List.map_cons,List.map_nil,lu]
 by_cases hu:okU f bl rl fl
 case neg=>
   rw[m2 hu]at mp
   clear m2 m3
   unfold useA z13 at*
   simp(disch:=omega)only[wk,tupled,↓reduceIte,reduceEqDiff,reduceEq,reduceAdd,reduceCtorEq,mp,ob,orr,of,sworks_px,runG_un,purify,unownT,lend,unown,AV.hf,hfL]
 obtain⟨rt,ns,h1,h2,h3⟩:=m3 hu
 have I:=imgOf hb hr hu h1 h2
 rw[h3]at mp
 have hf:=I.fo
 unfold okF at hf
 have hd:0<=dF f:=by unfold dF;omega
 have rc:=fun H=>toR (rCheck_px I.fo h1 h2 hb hr I.lb I.lr H)
 have sc:=fun H=>sCheck_px I H
 obtain⟨w,w1,sf⟩:=sFree_px I
 have si:=fun H=>sInode_px I H
 have sr:=fun H=>sRecord_px I H
 have rf:=fun H=>toR (rFree_px I H)
 have ri:=fun H=>toR (rInode_px I H)
 have rr:=fun H=>toR (rRecord_px I H)
 rw[<-freeL_eq bl hd]at rf
 rw[freeM_rng]at ri
 have e1:rngM (fun n=>decide (findM (mkT rt ns) n 0<0)) 1 f.i.toNat=rngM (fun n=> !decide (0<=findM (mkT rt ns) n 0)) 1 f.i.toNat:=rngM_congr _ _ fun x _ _=>by
   by_cases h:findM (mkT rt ns) x 0<0
   . rw[decide_eq_true h,decide_eq_false (by omega)];rfl
   . rw[decide_eq_false h,decide_eq_true (by omega)];rfl
 rw[e1]at ri
 have gi:=rngM_ge (P:=fun n=> !decide (0<=findM (mkT rt ns) n 0)) f.i.toNat 1
 have gr:=rngM_ge (P:=fun n=> !decide (n∈rl)) f.r.toNat 1
 have gl:(freeL f bl).length<=100000:=by have:=rngM_len (fun b=> !pB f bl b.toNat) (f.b-dF f).toNat (dF f);unfold freeL;omega
 generalize freeL f bl=FL at*
 generalize rngM (fun n=> !decide (0<=findM (mkT rt ns) n 0)) 1 f.i.toNat=IL at*
 generalize rngM (fun n=> !decide (n∈rl)) 1 f.r.toNat=RL at*
 clear I h3 m2 m3 e1 h1 h2
 have hp:∀{L:List Int} {k:Nat},(∀x∈L,(1:Int)<=x/\x<1+k)->(L.headD 0=0/\(if L=[] then(5:Int)else 0)=5)∨(0<L.headD 0/\(if L=[] then(5:Int)else 0)=0):=by
   intro L k h
   cases L with
   |nil=>exact .inl ⟨rfl,rfl⟩
   | cons x r=>
     have:=h x (List.mem_cons_self ..)
     exact .inr ⟨by rw[List.headD_cons];omega,if_neg (by simp)⟩
 have hI:=hp gi
 have hR:=hp gr
 clear gi gr hp
 generalize mkT rt ns=T at*
 generalize IL.headD 0=i0 at*
 generalize (if IL=[] then(5:Int)else 0)=i1 at*
 generalize RL.headD 0=r0 at*
 generalize (if RL=[] then(5:Int)else 0)=r1 at*
 have im:imgC f T bv rv=[.int .i64 f.b,.int .i64 f.i,.int .i64 f.r,.int .i64 f.t,.int .u64 5,.int .u64 6,.int .i64 9,.int .i64 (9+f.i/4),.int .i64 (9+f.i/4+f.r/4),.int .i64 (dF f),.sl 7 T.length (encs tvC T) .ro,bv,rv]:=rfl
 rw[im]at mp rc sc sf si sr rf ri rr
 obtain⟨s,tk,rfl,hs,ht⟩:=w1
 unfold useA at*
 cases ok:okI f bl rl with
 | false=>
   rw[ok]at rc sc sf si sr
   simp only[Bool.false_eq_true,if_false,List.length_nil]at rc sc sf si sr
   simp(disch:=omega)only[wk,tupled,↓reduceIte,reduceEqDiff,reduceEq,reduceAdd,reduceCtorEq,mp,ob,orr,of,rc,sc,sf,si,sr,snum_px,sworks_px,runG_un,gp_un,purify,unownT,lend,unown,AV.hf,hfL]
 | true=>
   rw[ok]at rc sc sf si sr hs
   simp only[if_true]at rc sc sf si sr hs
   have si':=fun t2 H=>toR (sameInts_px (l:=FL) (s:=s) (s2:=1) (tk:=tk) (tk2:=t2) hs (fun _=>rfl) gl H)
   have c1:¬(0:Int)=5:=by decide
   have c2:¬(5:Int)=0:=by decide
   have c3:¬(0:Int)<0:=by decide
   have d0:∀{x:Int},0<x->¬x=0:=fun h=>by omega
   cases FL with
   | nil=>
     have rf:∀H,pcx (cbL tabR) 29 _ H=some (.plain (.sl 0 0 [] .z)):=rf
     have sf:∀H,pcx (cbL tabR) 17 _ H=some (.plain (.tup [.sl s 0 [] tk,.int .i64 0])):=sf
     have si':=fun H=>toR (sameInts_px (l:=[]) (s:=s) (s2:=0) (tk:=tk) (tk2:= .z) hs (fun h=>absurd rfl h) gl H)
     have si':∀H,pcx (cbL tabR) 28 [.sl s 0 [] tk,.sl 0 0 [] .z] H=some (.plain (.bool true)):=si'
     rcases hI with⟨rfl,rfl⟩|⟨a1,rfl⟩<;>rcases hR with⟨rfl,rfl⟩|⟨a2,rfl⟩
     . simp(disch:=omega)only[wk,tupled,↓reduceIte,reduceEqDiff,reduceEq,reduceAdd,reduceCtorEq,mp,ob,orr,of,rc,sc,sf,si,sr,rf,ri,rr,si',c1,c2,c3,snum_px,sworks_px,runG_un,gp_un,purify,unownT,lend,unown,AV.hf,hfL]
     . simp(disch:=omega)only[wk,tupled,↓reduceIte,reduceEqDiff,reduceEq,reduceAdd,reduceCtorEq,mp,ob,orr,of,rc,sc,sf,si,sr,rf,ri,rr,si',c1,c2,c3,a2,d0 a2,snum_px,sworks_px,runG_un,gp_un,purify,unownT,lend,unown,AV.hf,hfL]
     . simp(disch:=omega)only[wk,tupled,↓reduceIte,reduceEqDiff,reduceEq,reduceAdd,reduceCtorEq,mp,ob,orr,of,rc,sc,sf,si,sr,rf,ri,rr,si',c1,c2,c3,a1,d0 a1,snum_px,sworks_px,runG_un,gp_un,purify,unownT,lend,unown,AV.hf,hfL]
     . simp(disch:=omega)only[wk,tupled,↓reduceIte,reduceEqDiff,reduceEq,reduceAdd,reduceCtorEq,mp,ob,orr,of,rc,sc,sf,si,sr,rf,ri,rr,si',c1,c2,c3,a1,d0 a1,a2,d0 a2,snum_px,sworks_px,runG_un,gp_un,purify,unownT,lend,unown,AV.hf,hfL]
   | cons x FL=>
     have hne:x::FL≠[]:=by simp
     rw[prRow_ne hne]at rf
     generalize x::FL=FL at*
     rcases hI with⟨rfl,rfl⟩|⟨a1,rfl⟩<;>rcases hR with⟨rfl,rfl⟩|⟨a2,rfl⟩
     . simp(disch:=omega)only[wk,tupled,↓reduceIte,reduceEqDiff,reduceEq,reduceAdd,reduceCtorEq,mp,ob,orr,of,rc,sc,sf,si,sr,rf,ri,rr,si',c1,c2,c3,snum_px,sworks_px,runG_un,gp_un,purify,unownT,lend,unown,AV.hf,hfL]
     . simp(disch:=omega)only[wk,tupled,↓reduceIte,reduceEqDiff,reduceEq,reduceAdd,reduceCtorEq,mp,ob,orr,of,rc,sc,sf,si,sr,rf,ri,rr,si',c1,c2,c3,a2,d0 a2,snum_px,sworks_px,runG_un,gp_un,purify,unownT,lend,unown,AV.hf,hfL]
     . simp(disch:=omega)only[wk,tupled,↓reduceIte,reduceEqDiff,reduceEq,reduceAdd,reduceCtorEq,mp,ob,orr,of,rc,sc,sf,si,sr,rf,ri,rr,si',c1,c2,c3,a1,d0 a1,snum_px,sworks_px,runG_un,gp_un,purify,unownT,lend,unown,AV.hf,hfL]
     . simp(disch:=omega)only[wk,tupled,↓reduceIte,reduceEqDiff,reduceEq,reduceAdd,reduceCtorEq,mp,ob,orr,of,rc,sc,sf,si,sr,rf,ri,rr,si',c1,c2,c3,a1,d0 a1,a2,d0 a2,snum_px,sworks_px,runG_un,gp_un,purify,unownT,lend,unown,AV.hf,hfL]
theorem okInt {v:AV} (h:OkS (.int .i64) v):∃n:Int,v= .int .i64 n:=by
 cases h;exact⟨_,rfl⟩
theorem rows1:∀(rows:List (List AV)),(∀r∈rows,r.length=1)->(∀r∈rows,∀(i:Nat) (s:Sh) (v:AV),([.int .i64]:List Sh)[i]? =some s->r[i]? =some v->OkS s v)->∃l:List Int,rows.flatten=encs i64A l/\rows.length=l.length
 |[],_,_=>⟨[],rfl,rfl⟩
 | r::rows,h1,h2=>by
   obtain⟨l,e1,e2⟩:=rows1 rows (fun x hx=>h1 x (List.mem_cons_of_mem _ hx)) (fun x hx=>h2 x (List.mem_cons_of_mem _ hx))
   have hr:=h1 r (List.mem_cons_self ..)
   match r,hr with
   | [v],_=>
     obtain⟨n,rfl⟩:=okInt (h2 [v] (List.mem_cons_self ..) 0 (.int .i64) v rfl rfl)
     refine⟨n::l, ?_,by rw[List.length_cons,List.length_cons,e2]⟩
     rw[List.flatten_cons,e1];rfl
theorem intR_of {v:AV} (h:OkS (.slice [.int .i64]) v):∃l,IntR l v:=by
 cases h with
 |slnil=>exact⟨[],1,.z,rfl,fun _=>rfl,rfl⟩
 | sl _ rows h hl hr=>
   obtain⟨l,e1,e2⟩:=rows1 rows hl hr
   exact⟨l,1,.ro,by rw[e1,e2];rfl,fun _=>rfl,rfl⟩
theorem use_of {x:List AV} (o:OkL [.int .i64,.int .i64,.int .i64,.int .i64,.slice [.int .i64],.slice [.int .i64],.slice [.int .i64]] x):∃f bl rl fl bv rv fv,.agg x=useA f bv rv fv/\IntR bl bv/\IntR rl rv/\IntR fl fv:=by
 obtain⟨hl,ho⟩:=o
 match x,hl with
 | [a,b,c,d,e,f,g],_=>
   obtain⟨n0,rfl⟩:=okInt (ho 0 _ a rfl rfl)
   obtain⟨n1,rfl⟩:=okInt (ho 1 _ b rfl rfl)
   obtain⟨n2,rfl⟩:=okInt (ho 2 _ c rfl rfl)
   obtain⟨n3,rfl⟩:=okInt (ho 3 _ d rfl rfl)
   obtain⟨bl,hb⟩:=intR_of (ho 4 _ e rfl rfl)
   obtain⟨rl,hr⟩:=intR_of (ho 5 _ f rfl rfl)
   obtain⟨fl,hf⟩:=intR_of (ho 6 _ g rfl rfl)
   exact⟨⟨n0,n1,n2,n3⟩,bl,rl,fl,e,f,g,rfl,hb,hr,hf⟩
theorem spaceFreesL {x:List AV} (o:OkL [.int .i64,.int .i64,.int .i64,.int .i64,.slice [.int .i64],.slice [.int .i64],.slice [.int .i64]] x):(cbL tabR).pc 7 [.agg x]=some (.plain (.bool true)):=by
 obtain⟨f,bl,rl,fl,bv,rv,fv,e,hb,hr,hf⟩:=use_of o
 rw[e]
 exact spaceFrees_pc hb hr hf
end Go.Proofs.YtephfpdnhdpmkaaGreatDoor
