/- TEXTS OF THE WALKS, put together: SU2 SU3 SU4 SU5 SU6 SU7 SK0 SKE SK1 LFr SQA SQ0 SPA PB1 SQ1 SQ2 SQ3 LU SQ4 SQ5 PB2 SQ6 SQ7 PB3 PB4 PB5 PB6 PB7 PB8 LPi. No condition but those stated. -/
import Derived.Test.YtephfpdnhdpmkaaGreatDoorQ2
import Derived.Test.YtephfpdnhdpmkaaGreatDoorQ1
import Derived.Test.YtephfpdnhdpmkaaGreatDoorAmOpen
open Int (reduceEq)
open Nat (reduceEqDiff reduceAdd reduceMul reduceLT reduceLeDiff)
set_option linter.all false
set_option maxHeartbeats 8000000
set_option maxRecDepth 1000000
namespace Go.Proofs.YtephfpdnhdpmkaaGreatDoor
open Go Go.Am Go.Spc Go.Rec
theorem Fw {f:FuncId} {args:List AV} {H:ab} {r:Out×ab} (h:(cbL tab).ic f args H=some r):(cbL bc).ic f args H=some r:=MT.ic _ _ _ _ h
theorem jK {a b:Int}:∀{l:List Int} {p:Option Int},gn a b p l=true->(∀x∈l,a<=x/\x<b/\∀y,p=some y->y<x)/\l.Pairwise (· < ·)
 |[],_,_=>⟨by simp,.nil⟩
 | x::r,p,h=>by
   rw[nH,Bool.and_eq_true]at h;obtain⟨h1,h2⟩:=h;obtain⟨x1,x2,x3⟩:=of_decide_eq_true h1;obtain⟨i1,i2⟩:=jK h2;refine⟨fun y hy=> ?_,List.pairwise_cons.2 ⟨fun y hy=>(i1 y hy).2.2 x rfl,i2⟩⟩
   rcases List.mem_cons.1 hy with rfl|hy
   . exact⟨x1,x2,x3⟩
   . obtain⟨y1,y2,y3⟩:=i1 y hy;exact⟨y1,y2,fun z hz=>by have:=x3 z hz;have:=y3 x rfl;omega⟩
def dF (f:Frm):Int:=9+f.i/4+f.r/4+1
def pB (f:Frm) (bl:List Int) (i:Nat):Bool:=decide ((i:Int)<dF f)||decide ((i:Int)∈bl)
theorem BM.congr {G:ab} {mo id n:Nat} {many:Int} {p q:Nat->Bool} (B:BM G mo id n many p) (h:∀i,p i=q i):BM G mo id n many q:=by
 obtain rfl:p=q:=funext h;exact B
theorem Kx {f:Frm} {rt:Tv} {ns bl rl:List Int} {bv rv:AV} (I:Img f rt ns bl rl bv rv) (ok:okI f bl rl=true) (H:ab):
   ∃mo id G,(cbL tab).ic 40 [.agg (bK f (mkT rt ns) bv rv)] H=some (.ret (.ptr mo 0),G)/\BM G mo id 1 f.b (pB f bl)/\H.length<=mo/\H.length<=id/\(∀i,i<H.length->G[i]? =H[i]?):=by
 have hf:=I.fo;unfold okF at hf;have b64:=I.b64;obtain⟨k,hk⟩:=Int.eq_ofNat_of_zero_le (show 0<=f.b by omega);obtain⟨d,hd⟩:=Int.eq_ofNat_of_zero_le (show 0<=dF f by unfold dF;omega)
 have hdk:d<=k:=by unfold dF at hd;omega
 unfold okI at ok;rw[Bool.and_eq_true]at ok;have rm:=(jK ok.1).1;have o1:=I.b.one;have o2:=I.r.one;have lb:=I.lb;obtain⟨s,tk,hbv,hs,htk⟩:=I.b;clear I;generalize mkT rt ns=T at*;have im:bK f T bv rv=[.int .i64 f.b,.int .i64 f.i,.int .i64 f.r,.int .i64 f.t,.int .u64 5,.int .u64 6,.int .i64 9,.int .i64 (9+f.i/4),.int .i64 (9+f.i/4+f.r/4),.int .i64 (dF f),.sl 7 T.length (ah tvC T) .ro,bv,rv]:=rfl;obtain⟨C,hC⟩:∃C,C=H++[aj.cells (bK f T bv rv)]:=⟨_,rfl⟩;obtain⟨G1,n1,n2,n3⟩:=M9 (H:=C) (k:=k) (by omega) (by omega)
 have lC:C.length=H.length+1:=by rw[hC];simp
 rw[show(k+63)/64=1 by omega]at n3;obtain⟨G2,s1,s2,s3,s4⟩:=BL n3 (a:=0) (c:=d) (by omega);have:=cK (tab:=tab) (f:=40) (fi:=c40) (args:=[.agg (bK f T bv rv)]) (H:=H) (P:=fun o G=>o= .ret (.ptr (C.length+1) 0)/\BM G (C.length+1) C.length 1 f.b (pB f bl)/\(∀i,i<H.length->G[i]? =H[i]?)) rfl rfl (by simp[c40]) (by decide) ?_
 . obtain⟨o,G,e1,rfl,e2,e3⟩:=this;exact⟨_,_,G,e1,e2,by omega,by omega,e3⟩
 unfold c40
 have g0:∀L:List aj,(H++L)[H.length]? =L[0]? :=fun L=>by rw[List.getElem?_append_right (Nat.le_refl _),Nat.sub_self]
 have cg:C[H.length]? =some (.cells (bK f T bv rv)):=by rw[hC,g0];rfl
 have gC:(C++G1)[H.length]? =some (.cells (bK f T bv rv)):=by rw[List.getElem?_append_left (by omega)];exact cg
 have gC2:G2[H.length]? =some (.cells (bK f T bv rv)):=by rw[s4 _ (by simp;omega) (by omega)];exact gC
 rw[<-hk]at n1;rw[<-hd]at s1;rw[im]at hC cg gC gC2 ⊢
 have pn:∀(a:AV) (H:ab),pcx (cbL tab) 48 [a] H=none:=fun a H=>br rfl (bH (fi:=c48) rfl rfl)
 have l1:(cbL tab).cC 48=false:=rfl;have l2:(cbL tab).cC 50=false:=rfl;have s1:(cbL tab).ic 50 [.ptr (C.length+1) 0,.int .i64 0,.int .i64 (dF f)] (C++G1)=some (.ret (.int .i64 0),G2):=s1;subst hbv;simp(disch:=omega)only[wk,ae,↓reduceIte,reduceEqDiff,reduceEq,reduceAdd,reduceCtorEq,o1,o2,<-hC,cg,gC,gC2,pn,On,aI l1,aI l2,n1,s1]
 refine aR (fun(x:List Int×List Int) E df G=>bl=x.1++x.2/\E 3= .ptr (C.length+1) 0/\E 24= .sl s bl.length (ah bW bl) tk/\E 25= .int .i64 ((bl.length:Nat):Int)/\E 26= .int .i64 ((x.1.length:Nat):Int)/\df=[]
     /\BM G (C.length+1) C.length 1 f.b (fun i=>(false||decide (0<=i/\i<0+d))||decide ((i:Int)∈x.1))/\(∀i,i<H.length->G[i]? =H[i]?))
   (fun x=>x.2.length) ([],bl) (by decide) (.inl rfl) ⟨rfl,rfl,rfl,rfl,rfl,rfl, ?_,fun i hi=> ?_⟩ ?_
 . refine BM.congr (p:=fun i=>false||decide (0<=i/\i<0+d)) (by rw[hk];exact s2) fun i=> ?_
   simp
 . rw[s4 i (by simp;omega) (by omega),List.getElem?_append_left (by omega),hC,List.getElem?_append_left hi]
 intro ⟨pre,suf⟩ E df G ih hP;obtain⟨a1,E3,E24,E25,E26,hdf,B,gold⟩:=hP;dsimp only at a1 E26 B;subst hdf
 have la:bl.length=pre.length+suf.length:=by rw[a1,List.length_append]
 cases suf with
 | nil=>
   have n1:¬(pre.length:Int)<(bl.length:Int):=by rw[la];simp
   have ep:pre=bl:=by rw[a1];simp
   simp(disch:=omega)only[wk,ae,↓reduceIte,reduceEqDiff,reduceEq,reduceAdd,reduceCtorEq,E3,E24,E25,E26,n1];refine⟨BM.congr B fun i=> ?_,gold⟩;unfold pB;rw[ep,hd,Bool.false_or];congr 1;by_cases h:i<d
   . rw[decide_eq_true (by omega),decide_eq_true (by omega)]
   . rw[decide_eq_false (by omega),decide_eq_false (by omega)]
 | cons x r=>
   rw[List.length_cons]at la
   have n1:(pre.length:Int)<(bl.length:Int):=by omega
   obtain rfl:=hs (by rw[a1];simp);have d1:=jU pre x r;rw[<-a1]at d1;obtain⟨x1,x2,_⟩:=rm x (by rw[a1];simp);obtain⟨z,hz⟩:=Int.eq_ofNat_of_zero_le (show 0<=x by unfold dF at hd;omega);obtain⟨G',q1,q2,q3,q4⟩:=BL B (a:=z) (c:=1) (by omega);rw[<-hz]at q1;have q1:(cbL tab).ic 50 [.ptr (C.length+1) 0,.int .i64 x,.int .i64 1] G=some (.ret (.int .i64 0),G'):=q1;simp(disch:=omega)only[wk,ae,↓reduceIte,reduceEqDiff,reduceEq,reduceAdd,reduceCtorEq,E3,E24,E25,E26,n1,d1,On,aI l2,q1];refine ih (pre++[x],r) _ _ _ (by simp) ⟨by simp[a1],by simp only[en,↓reduceIte,reduceEqDiff,E3],by simp only[en,↓reduceIte,reduceEqDiff,E24],by simp only[en,↓reduceIte,reduceEqDiff,E25],by simp only[en,↓reduceIte,reduceEqDiff],rfl,BM.congr q2 fun i=> ?_,fun i hi=> ?_⟩
   . dsimp only;rw[Bool.or_assoc];congr 1;by_cases h:(i:Int)∈pre
     . rw[decide_eq_true h,decide_eq_true (List.mem_append.2 (.inl h))];rfl
     . rw[decide_eq_false h,Bool.false_or];by_cases e:(i:Int)=x
       . rw[decide_eq_true (by omega),decide_eq_true (List.mem_append.2 (.inr (List.mem_singleton.2 e)))]
       . rw[decide_eq_false (by omega),decide_eq_false fun hm=>(List.mem_append.1 hm).elim h fun hm=>e (List.mem_singleton.1 hm)]
   . rw[q4 i ?_ (by omega)];exact gold i hi;have:=(List.getElem?_eq_some_iff.1 B.w).1;omega
theorem Me {G:ab} {mo id n:Nat} {many:Int} {p:Nat->Bool} (B:BM G mo id n many p) {k:Nat} (hk:k<64*n):(cbL tab).ic 79 [.msl 1 id 0 n,.int .i64 (k:Int)] G=some (.ret (.bool (p k)),G):=by
 obtain⟨m,w,lo,hi,few⟩:=B;have:=cK (tab:=tab) (f:=79) (fi:=c79) (args:=[.msl 1 id 0 n,.int .i64 (k:Int)]) (H:=G) (P:=fun o G'=>o= .ret (.bool (p k))/\G'=G) rfl rfl (by simp[c79]) (by decide) ?_
 . obtain⟨o,G',e1,rfl,rfl⟩:=this;exact e1
 unfold c79
 have kd:k/64<n:=by omega
 have km:k % 64<64:=by omega
 have w1:IntKind.i64.wrap ((k/64:Nat):Int)=((k/64:Nat):Int):=wrap_i64 (by omega) (by omega);have g1:=BA p kd
 have e:64*(k/64)+k % 64=k:=by omega
 have a1:=fun xo yo ek=>JW (fun j=>p (64*(k/64)+j)) km (xo:=xo) (yo:=yo) (ek:=ek)
 rw[e]at a1
 cases hp:p k<;>rw[hp]at a1<;>simp only[Bool.false_eq_true,if_false,if_true]at a1<;>simp(disch:=omega)only[wk,ae,↓reduceIte,reduceEqDiff,reduceEq,reduceAdd,reduceCtorEq,w,td,tm,w1,g1,Nat.zero_add,Int.toNat_natCast,MY _ km,a1]
def dq (P:Int->Bool):Int->Nat->List Int
 |_,0=>[]
 |a,k+1=>if P a then a::dq P (a+1) k else dq P (a+1) k
theorem nO (P:Int->Bool):∀(k:Nat) (a:Int),dq P a (k+1)=dq P a k++(if P (a+k)then [a+k] else [])
 | 0,a=>by
   show(if P a then [a] else [])=[]++(if P (a+(0:Nat))then [a+(0:Nat)] else [])
   simp
 | k+1,a=>by
   have ih:=nO P k (a+1);rw[show a+1+(k:Int)=a+((k+1:Nat):Int)by omega]at ih;rw[dq,ih,dq]
   split<;>simp
theorem mz (P:Int->Bool):∀(k:Nat) (a:Int),(dq P a k).length<=k
 |0,_=>by simp[dq]
 | k+1,a=>by
   have:=mz P k (a+1);rw[dq]
   split<;>simp<;>omega
def ze (G:ab) (v:AV) (l:List Int):Prop:=Own G 1 v l.length (ah bW l)
theorem ze.app {G:ab} {v:AV} {l:List Int} (h:ze G v l) (L:List aj):ze (G++L) v l:=by
 rcases h with h|⟨h0,g,h1,h2⟩
 . exact .inl h
 . exact .inr ⟨h0,g,h1,by rw[List.getElem?_append_left (List.getElem?_eq_some_iff.1 h2).1];exact h2⟩
def mR (f:Frm) (bl:List Int):List Int:=dq (fun b=> !pB f bl b.toNat) (dF f) (f.b-dF f).toNat
theorem BM.of {G G':ab} {mo id n:Nat} {many:Int} {p:Nat->Bool} (B:BM G mo id n many p) (h:∀i,i<G.length->G'[i]? =G[i]?):BM G' mo id n many p:=by
 obtain⟨m,w,lo,hi,few⟩:=B;exact⟨by rw[h _ (List.getElem?_eq_some_iff.1 m).1];exact m,by rw[h _ (List.getElem?_eq_some_iff.1 w).1];exact w,lo,hi,few⟩
theorem dU.aE {l:List Int} {v:AV} (h:dU l v):aE v=v:=by
 obtain⟨s,tk,rfl,_,ht⟩:=h;exact hfT ht _ _ _
theorem Mx {l:List Int} {v:AV} (hv:dU l v) (hl:l.length<=100000) (x:Int) (H:ab):pcx (cbL tab) 59 [v,.int .i64 x] H=some (.plain (.bool (decide (x∈l)))):=by
 have hh:=hv.hf;have e2:=hv.aE;obtain⟨s,tk,rfl,hs,htk⟩:=hv;refine aP rfl (ba (fi:=c59) rfl ?_ (by simp[c59]) (by decide) ?_)
 . simp only[bG,List.map_cons,List.map_nil,e2,aC,c59,hfL,hh,Bool.true_and];rfl
 unfold c59;rw[List.map_cons,List.map_cons,List.map_nil,e2,aC];simp(disch:=omega)only[wk,ae,↓reduceIte,reduceEqDiff,reduceEq,reduceAdd,reduceCtorEq]
 refine aR (fun(y:List Int×List Int) E df H=>l=y.1++y.2/\x∉y.1/\E 0= .sl s l.length (ah bW l) tk/\E 1= .int .i64 x/\E 5= .int .i64 ((y.1.length:Nat):Int)/\df=[])
   (fun y=>y.2.length) ([],l) (by decide) (.inl rfl) ⟨rfl,by simp,rfl,rfl,rfl,rfl⟩ ?_
 intro ⟨pre,suf⟩ E df H ih hP;obtain⟨a1,a2,E0,E1,E5,hdf⟩:=hP;dsimp only at a1 a2 E5;subst hdf
 have la:l.length=pre.length+suf.length:=by rw[a1,List.length_append]
 cases suf with
 | nil=>
   have n1:¬(pre.length:Int)<(l.length:Int):=by rw[la];simp
   have e:decide (x∈l)=false:=by rw[a1,List.append_nil];exact decide_eq_false a2
   rw[e];simp(disch:=omega)only[wk,ae,↓reduceIte,reduceEqDiff,reduceEq,reduceAdd,reduceCtorEq,E0,E1,E5,n1,aH,aL,aE,au,AV.hf,hfL]
 | cons y r=>
   rw[List.length_cons]at la
   have n1:(pre.length:Int)<(l.length:Int):=by omega
   obtain rfl:=hs (by rw[a1];simp);have d1:=jU pre y r;rw[<-a1]at d1;by_cases h:y=x
   . have e:decide (x∈l)=true:=decide_eq_true (by rw[a1,<-h];simp);rw[e];simp(disch:=omega)only[wk,ae,↓reduceIte,reduceEqDiff,reduceEq,reduceAdd,reduceCtorEq,E0,E1,E5,n1,d1,h,aH,aL,aE,au,AV.hf,hfL]
   . simp(disch:=omega)only[wk,ae,↓reduceIte,reduceEqDiff,reduceEq,reduceAdd,reduceCtorEq,E0,E1,E5,n1,d1,h];exact ih (pre++[y],r) _ _ _ (by simp) ⟨by simp[a1],by simp[a2,Ne.symm h],by simp only[en,↓reduceIte,reduceEqDiff,E0],by simp only[en,↓reduceIte,reduceEqDiff,E1],by simp only[en,↓reduceIte,reduceEqDiff],rfl⟩
def ixM:List Int->Int->Int->Int
 |[],_,_=> -1
 |y::r,x,i=>if x=y then i else ixM r x (i+1)
theorem yK {f:Frm} {rt:Tv} {ns bl rl:List Int} {bv rv:AV} (I:Img f rt ns bl rl bv rv) (H:ab):
   pcx (cbL tab) 29 [.agg (bK f (mkT rt ns) bv rv)] H=some (oo 1 bW (dq (fun b=> !decide (b∈bl)) (dF f) (f.b-dF f).toNat)):=by
 have hs:=fun x H=>Mx I.b (by have:=I.lb;omega) x H
 have hon:bG c29 [.agg (bK f (mkT rt ns) bv rv)]=true:=by
   simp only[bG,List.map_cons,List.map_nil,I.aE,c29];exact I.hf
 have o1:=I.b.one;have o2:=I.r.one;have li:=I.aE;have hf:=I.fo;unfold okF at hf;have b64:=I.b64;refine aP rfl (ba (fi:=c29) rfl hon (by simp[c29]) (by decide) ?_);unfold c29;rw[List.map_cons,List.map_nil,li];clear hon li I;generalize mkT rt ns=T at*;have im:bK f T bv rv=[.int .i64 f.b,.int .i64 f.i,.int .i64 f.r,.int .i64 f.t,.int .u64 5,.int .u64 6,.int .i64 9,.int .i64 (9+f.i/4),.int .i64 (9+f.i/4+f.r/4),.int .i64 (dF f),.sl 7 T.length (ah tvC T) .ro,bv,rv]:=rfl;obtain⟨C,hC⟩:∃C,C=bK f T bv rv:=⟨_,rfl⟩;obtain⟨k,hk⟩:∃k,k=(f.b-dF f).toNat:=⟨_,rfl⟩
 have hd:0<=dF f:=by unfold dF;omega
 have hdk:dF f+(k:Int)=f.b:=by unfold dF at*;omega
 rw[<-hk];rw[im]at hC ⊢;simp(disch:=omega)only[wk,ae,↓reduceIte,reduceEqDiff,reduceEq,reduceAdd,reduceCtorEq,o1,o2]
 refine aR (fun(i:Nat) E df G=>i<=k/\E 1= .ptr 0 0/\G[0]? =some (.cells C)/\ze G (E 3) (dq (fun b=> !decide (b∈bl)) (dF f) i)/\(dq (fun b=> !decide (b∈bl)) (dF f) i=[]->E 3= .sl 0 0 [] .z)/\E 4= .int .i64 (dF f+i)/\df=[])
   (fun i=>k-i) 0 (by decide) (.inl rfl) ⟨Nat.zero_le _,rfl,by rw[hC];rfl,.inl ⟨.inl rfl,rfl,rfl⟩,fun _=>rfl,by simp only[en,↓reduceIte,reduceEqDiff];simp,rfl⟩ ?_
 intro i E df G ih hP;obtain⟨hi,E1,G0,E3,E3z,E4,hdf⟩:=hP;subst hdf;have G0':=G0;rw[hC]at G0;by_cases hik:i<k
 . have n1:dF f+(i:Int)<f.b:=by omega
   have w1:IntKind.i64.wrap (dF f+(i:Int)+1)=dF f+((i+1:Nat):Int):=by rw[wrap_i64 (by omega) (by omega)];omega
   have sn:=nO (fun b=> !decide (b∈bl)) i (dF f);by_cases hp:dF f+i∈bl
   . have hm:decide (dF f+i∈bl)=true:=decide_eq_true hp;rw[hm,Bool.not_true,if_neg Bool.false_ne_true,List.append_nil]at sn;simp(disch:=omega)only[wk,ae,↓reduceIte,reduceEqDiff,reduceEq,reduceAdd,reduceCtorEq,E1,E4,G0,n1,hs,hm,w1];refine ih (i+1) _ _ _ (by omega) ⟨hik,by simp only[en,↓reduceIte,reduceEqDiff,E1],G0', ?_, ?_,by simp only[en,↓reduceIte,reduceEqDiff],rfl⟩
     . rw[sn];simp only[en,↓reduceIte,reduceEqDiff];exact E3
     . rw[sn];simp only[en,↓reduceIte,reduceEqDiff];exact E3z
   . have hm:decide (dF f+i∈bl)=false:=decide_eq_false hp;rw[hm,Bool.not_false,if_pos rfl]at sn;have rl:=mz (fun b=> !decide (b∈bl)) i (dF f);simp(disch:=omega)only[wk,ae,↓reduceIte,reduceEqDiff,reduceEq,reduceAdd,reduceCtorEq,E1,E4,G0,n1,hs,hm,w1];refine bJ E3 (by decide) (by omega) (by omega) (by decide) rfl rfl (fun H2 q1 q2 q3=> ?_);have G2:=q2.cells E3 rfl G0' (by intro s h;cases h);simp(disch:=omega)only[wk,ae,↓reduceIte,reduceEqDiff,reduceEq,reduceAdd,reduceCtorEq,E1,E4,w1];refine ih (i+1) _ _ _ (by omega) ⟨hik,by simp only[en,↓reduceIte,reduceEqDiff,E1],G2, ?_, ?_,by simp only[en,↓reduceIte,reduceEqDiff],rfl⟩
     . simp only[en,↓reduceIte,reduceEqDiff];rw[sn];unfold ze;rw[List.length_append,aO];exact q1
     . rw[sn];intro h;simp at h
 . have e:i=k:=by omega
   subst e
   have n1:¬dF f+(i:Int)<f.b:=by omega
   simp(disch:=omega)only[wk,ae,↓reduceIte,reduceEqDiff,reduceEq,reduceAdd,reduceCtorEq,E1,E4,G0,n1];exact fN (fun _=>rfl) E3 (fun h s n c e=>by rw[E3z h]at e;cases e)
theorem ze.shape {G:ab} {v:AV} {l:List Int} (h:ze G v l):∃s tk,v= .sl s l.length (ah bW l) tk/\(l≠[]->s=1):=by
 rcases h with⟨h1,h2,h3⟩|⟨h0,g,rfl,hg⟩
 . have:l=[]:=List.length_eq_zero_iff.1 h2;subst this
   rcases h1 with rfl|rfl
   . exact⟨_,_,rfl,fun h=>absurd rfl h⟩
   . exact⟨_,_,rfl,fun _=>rfl⟩
 . exact⟨_,_,rfl,fun _=>rfl⟩
end Go.Proofs.YtephfpdnhdpmkaaGreatDoor
namespace Go.Proofs.YtephfpdnhdpmkaaGreatDoor
open Go Go.Am Go.Spc
def nN (f:Frm) (k0 k1:Int) (T:List Tv) (bv rv:AV):List AV:=[.int .i64 f.b,.int .i64 f.i,.int .i64 f.r,.int .i64 f.t,.int .u64 k0,.int .u64 k1,.int .i64 9,.int .i64 (9+f.i/4),.int .i64 (9+f.i/4+f.r/4),.int .i64 (9+f.i/4+f.r/4+1),.sl 7 T.length (ah tvC T) .ro,bv,rv]
theorem tw {f:Frm} {rt:Tv} {ns bl rl:List Int} {bv rv:AV} (I:Img f rt ns bl rl bv rv) {k0 k1:Int}:aE (.agg (nN f k0 k1 (mkT rt ns) bv rv))= .agg (nN f k0 k1 (mkT rt ns) bv rv):=by
 show AV.agg [_,_,_,_,_,_,_,_,_,_,_,au bv,au rv]=_
 rw[I.b.un,I.r.un];rfl
theorem Kl {f:Frm} {rt:Tv} {ns bl rl:List Int} {bv rv:AV} (I:Img f rt ns bl rl bv rv) {k0 k1:Int}:hfL [.agg (nN f k0 k1 (mkT rt ns) bv rv)]=true:=by
 have hhT:=iq (ej I.ro ns);simp[nN,hfL,AV.hf,hhT,I.b.hf,I.r.hf,Tk.hf]
theorem GG {k0 k1:Int} {f:Frm} {T:List Tv} (hT:okT T) (hu:T.map un=T) {bl rl:List Int} {bv rv:AV} (hb:dU bl bv) (hr:dU rl rv) (H:ab):cT (some (.ret (.tup [.agg (nN f k0 k1 T bv rv),.bool true]),H))=some (.plain (.tup [.agg (nN f k0 k1 T bv rv),.bool true])):=by
 have hk:∀{l:List Int} {v:AV},dU l v->fm (bO H 3 v)=v:=by
   rintro l v ⟨s,tk,rfl,_,ht⟩
   have e:∀l:List Int,(ah bW l).map au=ah bW l:=by
     intro l
     induction l with
     |nil=>rfl
     |cons x l ih=>rw[aK,List.map_append,ih];rfl
   have e:=e l;show au (.sl s l.length ((ah bW l).map au) tk)=_
   rw[e]
   cases tk<;>first|rfl|cases ht
 have e1:kz H (.tup [.agg (nN f k0 k1 T bv rv),.bool true])= .tup [.agg (nN f k0 k1 T bv rv),.bool true]:=by
   have e:(AV.sl 7 T.length ((ah tvC T).map au) .ro)= .sl 7 T.length (ah tvC T) .ro:=by rw[mq,hu]
   show AV.tup [.agg [_,_,_,_,_,_,_,_,_,_,.sl 7 T.length ((ah tvC T).map au) .ro,fm (bO H 3 bv),fm (bO H 3 rv)],.bool true]=_
   rw[e,hk hb,hk hr];rfl
 simp only[cT,e1];rw[if_pos];have h1:=iq hT;have h2:=hb.hf;have h3:=hr.hf;simp[AV.hf,hfL,nN,h1,h2,h3];rfl
theorem Jz {f:Frm} {rt:Tv} {ns bl rl:List Int} {bv rv:AV} (I:Img f rt ns bl rl bv rv) {k0 k1:Int} (u0:U64 k0) (u1:U64 k1) (hk:rt.nm=[]∨k0=5/\k1=6) (H:ab):
   pcx (cbL bc) 38 [.agg (nN f k0 k1 (mkT rt ns) bv rv)] H=some (.plain (.tup [.agg (if okI f bl rl=true then nN f k0 k1 (mkT rt ns) bv rv else z13),.bool (okI f bl rl)])):=by
 have hf:=I.fo;refine aP rfl (cP (fi:=c38) rfl ?_ (by simp[c38]) (by decide) ?_)
 . simp only[bG,List.map_cons,List.map_nil,(tw I),c38];exact Kl I
 unfold c38;rw[List.map_cons,List.map_nil,(tw I)]
 have r1:=fun a b H=>toR (iY I.b (by have:=I.lb;omega) a b H)
 have r2:=fun a b H=>toR (iY I.r (by have:=I.lr;omega) a b H)
 have o1:=I.b.one;have o2:=I.r.one
 have wr:IntKind.i64.wrap (f.r+1)=f.r+1:=by obtain⟨_,_,_,_,_,x1,x2,_⟩:=hf;exact wrap_i64 (by omega) (by omega)
 have pd1:=fun H=>GG (k0:=k0) (k1:=k1) (ej I.ro ns) (lM I.ro ns) I.b I.r (f:=f) H
 have mo:=fun H=>D4 hf I.ro I.j (k0:=k0) (k1:=k1) u0 u1 hk H
 have pn:∀(v w:AV) (H:ab),pcx (cbL bc) 72 [v,w] H=none:=fun v w H=>br rfl (bH (fi:=c72) rfl rfl)
 have ll:(cbL bc).cC 72=false:=rfl;generalize mkT rt ns=T at*;have la:bA f k0 k1=[.int .i64 f.b,.int .i64 f.i,.int .i64 f.r,.int .i64 f.t,.int .u64 k0,.int .u64 k1,.int .i64 9,.int .i64 (9+f.i/4),.int .i64 (9+f.i/4+f.r/4),.int .i64 (9+f.i/4+f.r/4+1)]:=rfl;have im:nN f k0 k1 T bv rv=[.int .i64 f.b,.int .i64 f.i,.int .i64 f.r,.int .i64 f.t,.int .u64 k0,.int .u64 k1,.int .i64 9,.int .i64 (9+f.i/4),.int .i64 (9+f.i/4+f.r/4),.int .i64 (9+f.i/4+f.r/4+1),.sl 7 T.length (ah tvC T) .ro,bv,rv]:=rfl;rw[la]at mo;rw[im]at pd1 ⊢;unfold okI z13;obtain⟨G,mg,mk⟩:=mo [.cells (nN f k0 k1 T bv rv),.cells z13];rw[im]at mg mk;unfold z13 at mg mk;have m0:=mk 0 (by simp);have m1:=mk 1 (by simp);simp only[List.getElem?_cons_zero,List.getElem?_cons_succ]at m0 m1
 have gs:∀o,(G.set 1 o)[1]? =some o:=fun o=>by rw[List.getElem?_set_self ((List.getElem?_eq_some_iff.1 m1).1)]
 have pz:∀H,cT (some (.ret (.tup [.agg [.int .i64 0,.int .i64 0,.int .i64 0,.int .i64 0,.int .u64 0,.int .u64 0,.int .i64 0,.int .i64 0,.int .i64 0,.int .i64 0,.sl 0 0 [] .z,.sl 0 0 [] .z,.sl 0 0 [] .z],.bool false]),H))=some (.plain (.tup [.agg [.int .i64 0,.int .i64 0,.int .i64 0,.int .i64 0,.int .u64 0,.int .u64 0,.int .i64 0,.int .i64 0,.int .i64 0,.int .i64 0,.sl 0 0 [] .z,.sl 0 0 [] .z,.sl 0 0 [] .z],.bool false])):=fun H=>rfl
 cases h1:gn (9+f.i/4+f.r/4+1) f.b none bl with
 | false=>
   simp(disch:=omega)only[wk,ae,↓reduceIte,reduceEqDiff,reduceEq,reduceAdd,reduceCtorEq,pn,aI ll,mg,m0,m1,o1,o2,r1,r2,h1,wr,aB,bM,gs,Bool.and_self,Bool.and_false,Bool.false_and,Bool.and_true];rw[gD rfl];refine fR (by decide) (.inl rfl) ?_;simp(disch:=omega)only[wk,ae,↓reduceIte,reduceEqDiff,reduceEq,reduceAdd,reduceCtorEq,m1,gs,pz,Bool.false_and]
 | true=>
   cases h2:gn 1 (f.r+1) none rl with
   | false=>
     simp(disch:=omega)only[wk,ae,↓reduceIte,reduceEqDiff,reduceEq,reduceAdd,reduceCtorEq,pn,aI ll,mg,m0,m1,o1,o2,r1,r2,h1,h2,wr,aB,bM,gs,Bool.and_self,Bool.and_false,Bool.false_and,Bool.and_true];rw[gD rfl];refine fR (by decide) (.inl rfl) ?_;simp(disch:=omega)only[wk,ae,↓reduceIte,reduceEqDiff,reduceEq,reduceAdd,reduceCtorEq,m1,gs,pz,Bool.and_false]
   | true=>
     simp(disch:=omega)only[wk,ae,↓reduceIte,reduceEqDiff,reduceEq,reduceAdd,reduceCtorEq,pn,aI ll,mg,m0,m1,o1,o2,r1,r2,h1,h2,wr,aB,bM,gs,Bool.and_self,Bool.and_false,Bool.false_and,Bool.and_true,pd1]
end Go.Proofs.YtephfpdnhdpmkaaGreatDoor
namespace Go.Am
open Go
def eqL (p:AV->AV->Bool):List AV->List AV->Bool
 |[],[]=>true
 |a::r,b::s=>p a b&&eqL p r s
 |_,_=>false
def eqD:Nat->AV->AV->Bool
 |0,_,_=>false
 | n+1,a,b=>
   match a,b with
   | .sl s k cs tk,.sl s' k' ds tk'=>Nat.beq s s'&&(Nat.beq k k'&&(eqT tk tk'&&eqL (eqD n) cs ds))
   | .agg cs,.agg ds=>eqL (eqD n) cs ds
   |a,b=>eqS a b
theorem vo {p:AV->AV->Bool} (hp:∀a b,p a b=true->a=b):∀{a b:List AV},eqL p a b=true->a=b
 |[],[],_=>rfl
 | a::r,b::s,h=>by
   simp only[eqL,Bool.and_eq_true]at h;rw[hp _ _ h.1,vo hp h.2]
 |[],_::_,h=>by cases h
 |_::_,[],h=>by cases h
theorem zD:∀(n:Nat) (a b:AV),eqD n a b=true->a=b
 |0,_,_,h=>by cases h
 | n+1,a,b,h=>by
   unfold eqD at h;split at h
   . simp only[Bool.and_eq_true]at h;rw[Nat.eq_of_beq_eq_true h.1,Nat.eq_of_beq_eq_true h.2.1,DD h.2.2.1,vo (zD n) h.2.2.2]
   . rw[vo (zD n) h]
   . exact zo h
end Go.Am
namespace Go.Proofs.YtephfpdnhdpmkaaGreatDoor
open Go Go.Am Go.Spc Go.Rec
def fW:Frm:=⟨32,8,16,8⟩
def blW:List Int:=[18,19,24,25,26,27,28,29,30,31]
def Jq:List AV:=[.int .i64 32,.int .i64 8,.int .i64 16,.int .i64 8,.int .u64 1,.int .u64 2,.int .i64 9,.int .i64 11,.int .i64 15,.int .i64 16,.sl 7 1 [.int .i64 1,.int .i64 2,.int .i64 1,.sl 0 0 [] .z,.int .i64 1,.sl 0 0 [] .z,.str (ByteArray.mk (Array.mk []))] .ro,.sl 1 10 [.int .i64 18,.int .i64 19,.int .i64 24,.int .i64 25,.int .i64 26,.int .i64 27,.int .i64 28,.int .i64 29,.int .i64 30,.int .i64 31] .ro,.sl 0 0 [] .z]
theorem Ph:(cbL bc).pc 38 [.agg Jq]=some (.plain (.tup [.agg Jq,.bool true])):=by
 have I:Img fW kR [] blW [] (.sl 1 10 (ah bW blW) .ro) (.sl 0 0 [] .z):=⟨by decide,qZ,JV.nil _ (by decide),⟨1,.ro,rfl,fun _=>rfl,rfl⟩,⟨0,.z,rfl,fun h=>absurd rfl h,rfl⟩,by decide,by decide,by decide⟩;have h:=Jz I (k0:=1) (k1:=2) ⟨by decide,by decide⟩ ⟨by decide,by decide⟩ (.inl rfl) []
 have e:okI fW blW []=true:=by decide
 rw[e,if_pos rfl]at h;rw[y6 rfl]at h;exact h
def DX (f:FuncId) (args:List AV):Option PR:=if Nat.beq f 38&&eqL (eqD 5) [.agg Jq] (args.map aE)then some (.plain (.tup [.agg Jq,.bool true]))else none
theorem CK:∀f args r,DX f args=some r->(cbL bc).pc f args=some r:=by
 intro f args r h;unfold DX at h;split at h
 . rename_i hc;rw[Bool.and_eq_true]at hc;cases h;have hf:=Nat.eq_of_beq_eq_true hc.1;have ha:=vo (zD 5) hc.2;subst hf;refine pK rfl ?_;rw[<-ha];exact Ph
 . cases h
theorem FJ:(cbL bc).pc 9 []=some (.plain (.bool true)):=HV CK 300 (by kernel_rfl)
theorem Bk (e:Int) (H:ab):pcx (cbL bc) 14 [.int .i64 e] H=some (.plain (.int .i64 e)):=by
 refine toR (aP rfl (ba (fi:=c14) rfl rfl (by simp[c14]) (by decide) ?_));unfold c14;rw[List.map_cons,List.map_nil,aC];simp(disch:=omega)only[wk,ae,↓reduceIte,reduceEqDiff,reduceEq,reduceAdd,reduceCtorEq,aH,aL,aE,au,AV.hf,hfL]
theorem nG (H:ab):pcx (cbL bc) 9 [] H=some (.plain (.bool true)):=aP rfl FJ
theorem OY {f:FuncId} {args:List AV} {r:PR} (h:(cbL tab).pc f args=some r):(cbL bc).pc f args=some r:=MT.pc _ _ _ h
theorem gQ {P Q:Int->Bool}:∀(k:Nat) (a:Int),(∀x,a<=x->x<a+k->P x=Q x)->dq P a k=dq Q a k
 |0,_,_=>rfl
 | k+1,a,h=>by
   rw[dq,dq,h a (Int.le_refl _) (by omega),gQ k (a+1) fun x h1 h2=>h x (by omega) (by omega)]
theorem uE {P:Int->Bool}:∀(k:Nat) (a:Int),∀x∈dq P a k,a<=x/\x<a+k
 |0,_,x,h=>by cases h
 | k+1,a,x,h=>by
   rw[dq]at h;split at h
   . rcases List.mem_cons.1 h with rfl|h
     . omega
     . have:=uE k (a+1) x h;omega
   . have:=uE k (a+1) x h;omega
theorem Gt {f:Frm} (bl:List Int) (h:0<=dF f):mR f bl=dq (fun b=> !decide (b∈bl)) (dF f) (f.b-dF f).toNat:=by
 refine gQ _ _ fun x h1 h2=> ?_
 have:((x.toNat:Nat):Int)=x:=by omega
 unfold pB;rw[this,decide_eq_false (by omega),Bool.false_or]
theorem Ou {f:Frm} {bl rl fl:List Int} {bv rv:AV} (hb:dU bl bv) (hr:dU rl rv) (h:okU f bl rl fl) {rt:Tv} {ns:List Int} (h1:cN rt) (h2:JV f rt.nm ns):Img f rt ns bl rl bv rv:=
 ⟨h.1,h1,h2,hb,hr,h.2.2.1,h.2.2.2.1,h.2.1⟩
end Go.Proofs.YtephfpdnhdpmkaaGreatDoor
namespace Go.Spc
open Go Go.Am
structure Rn where
 a:Int
 m:Int
def rnA (x:Rn):List AV:=[.int .i64 x.a,.int .i64 x.m]
instance : rI rnA 2 := ⟨fun _ => rfl⟩
def iH (out:List Rn) (b:Int):List Rn:=
 match out.getLast? with
 |some x=>if x.a+x.m=b then out.dropLast++[⟨x.a,x.m+1⟩] else out++[⟨b,1⟩]
 |none=>out++[⟨b,1⟩]
def cL:Int->List Int->List Rn
 |_,[]=>[]
 |e,b::r=>if e<b then⟨e,b-e⟩::cL (b+1) r else cL (b+1) r
def NL (out:List Rn) (e:Int):Prop:=∀x,out.getLast? =some x->x.a+x.m<e
end Go.Spc
namespace Go.Proofs.YtephfpdnhdpmkaaGreatDoor
open Go Go.Am Go.Spc
theorem uf {out:List Rn} {b:Int} (h:∀x,out.getLast? =some x->x.a+x.m≠b):iH out b=out++[⟨b,1⟩]:=by
 unfold iH
 cases hl:out.getLast? with
 |none=>rfl
 |some x=>exact if_neg (h x hl)
theorem sI {out:List Rn} {x:Rn} {b:Int} (h:x.a+x.m=b):iH (out++[x]) b=out++[⟨x.a,x.m+1⟩]:=by
 unfold iH;rw[List.getLast?_append];simp[h]
theorem pF:∀(k:Nat) (out:List Rn) (e:Int),NL out e->(dq (fun _=>true) e k).foldl iH out=out++(if 0<k then [⟨e,(k:Int)⟩] else [])
 |0,out,e,_=>by simp[dq]
 | k+1,out,e,h=>by
   have ih:=pF k out e h;rw[nO,if_pos rfl,List.foldl_append,ih];simp only[List.foldl_cons,List.foldl_nil];rw[if_pos (Nat.succ_pos k)];by_cases hk:0<k
   . rw[if_pos hk,sI (by rfl)];simp
   . have:k=0:=by omega
     subst this;rw[if_neg (by decide),List.append_nil,uf fun x hx=>by have:=h x hx;simp;omega];simp
theorem vw (P:Int->Bool):∀(k m:Nat) (a:Int),dq P a (k+m)=dq P a k++dq P (a+k) m
 |0,m,a=>by simp[dq]
 | k+1,m,a=>by
   rw[show k+1+m=(k+m)+1 by omega,dq,dq,vw P k m (a+1),show a+1+(k:Int)=a+((k+1:Nat):Int)by omega]
   split<;>simp
theorem tv:∀(bl:List Int) (out:List Rn) (d:Int) (k:Nat),bl.Pairwise (· < ·)->(∀x∈bl,d<=x/\x<d+k)->NL out d→
   (dq (fun b=> !decide (b∈bl)) d k).foldl iH out=out++cL d (bl++[d+k])
 | [],out,d,k,_,_,h=>by
   have e:dq (fun b=> !decide (b∈([]:List Int))) d k=dq (fun _=>true) d k:=gQ _ _ fun x _ _=>by simp
   rw[e,pF k out d h];simp only[List.nil_append,cL];by_cases hk:0<k
   . rw[if_pos hk,if_pos (by omega),show d+(k:Int)-d=k by omega]
   . rw[if_neg hk,if_neg (by omega)]
 | b::r,out,d,k,hs,hr,h=>by
   obtain⟨b1,b2⟩:=hr b (List.mem_cons_self ..);obtain⟨s1,s2⟩:=List.pairwise_cons.1 hs;obtain⟨j,hj⟩:=Int.eq_ofNat_of_zero_le (show 0<=b-d by omega);obtain⟨q,hq⟩:∃q,k=j+(q+1):=⟨k-j-1,by omega⟩
   have e1:dq (fun x=> !decide (x∈b::r)) d j=dq (fun _=>true) d j:=gQ _ _ fun x h1 h2=>by
     have:¬x∈b::r:=fun hm=>by
       rcases List.mem_cons.1 hm with rfl|hm
       . omega
       . have:=s1 x hm;omega
     rw[decide_eq_false this];rfl
   have e2:dq (fun x=> !decide (x∈b::r)) (d+j) (q+1)=dq (fun x=> !decide (x∈r)) (b+1) q:=by
     rw[dq,show d+(j:Int)=b by omega,decide_eq_true (List.mem_cons_self ..)];rw[if_neg (by decide)]
     exact gQ _ _ fun x h1 h2=>by
       by_cases hm:x∈r
       . rw[decide_eq_true hm,decide_eq_true (List.mem_cons_of_mem _ hm)]
       . rw[decide_eq_false hm,decide_eq_false];intro h3
         rcases List.mem_cons.1 h3 with rfl|h3
         . omega
         . exact hm h3
   rw[hq,vw,e1,e2,List.foldl_append,pF j out d h]
   have ih:=tv r (out++(if 0<j then [⟨d,(j:Int)⟩] else [])) (b+1) q s2 (fun x hx=>by have:=s1 x hx;have:=hr x (List.mem_cons_of_mem _ hx);omega) (fun x hx=>by
     by_cases h0:0<j
     . rw[if_pos h0,List.getLast?_append]at hx;simp at hx
       rw[<-hx];simp;omega
     . rw[if_neg h0,List.append_nil]at hx
       have:=h x hx;omega)
   rw[ih];simp only[List.cons_append,cL];rw[show d+((j+(q+1):Nat):Int)=b+1+(q:Int)by omega];by_cases h0:0<j
   . rw[if_pos h0,if_pos (by omega),show b-d=(j:Int)by omega];simp
   . rw[if_neg h0,if_neg (by omega)];simp
def cR (p:Nat->Bool):Rn->Nat->Nat->List Rn
 |r,_,0=>if r.m=0 then [] else [r]
 |r,k,f+1=>if p k then(if r.m=0 then cR p ⟨k,1⟩ (k+1) f else cR p ⟨r.a,r.m+1⟩ (k+1) f)else(if r.m=0 then cR p ⟨0,0⟩ (k+1) f else r::cR p ⟨0,0⟩ (k+1) f)
def dE (n:Int):Int->List Rn->List Rn
 |e,[]=>if e<n then [⟨e,n-e⟩] else []
 |e,r::l=>if e<r.a then⟨e,r.a-e⟩::dE n (r.a+r.m) l else dE n (r.a+r.m) l
def k8 (p:Nat->Bool):Int->Nat->Nat->List Rn
 |e,k,0=>if e<k then [⟨e,k-e⟩] else []
 |e,k,f+1=>if p k then(if e<k then⟨e,k-e⟩::k8 p ((k+1:Nat):Int) (k+1) f else k8 p ((k+1:Nat):Int) (k+1) f)else k8 p e (k+1) f
theorem sQ (p:Nat->Bool):∀(f k:Nat) (e:Int),dE ((k+f:Nat):Int) e (cR p ⟨0,0⟩ k f)=k8 p e k f∧
   ∀a m:Int,0<m->a+m=k->dE ((k+f:Nat):Int) e (cR p ⟨a,m⟩ k f)=(if e<a then [⟨e,a-e⟩] else [])++k8 p k k f
 | 0,k,e=>by
   refine⟨by simp[cR,dE,k8],fun a m hm h=> ?_⟩;rw[cR,if_neg (show¬(⟨a,m⟩:Rn).m=0 by simp only;omega),dE,dE,k8];simp only;rw[h,if_neg (show¬(k:Int)<((k+0:Nat):Int)by omega),if_neg (show¬(k:Int)<k by omega)]
   split<;>rfl
 | f+1,k,e=>by
   have ih:=fun e=>sQ p f (k+1) e
   rw[show k+(f+1)=k+1+f by omega];refine⟨?_,fun a m hm h=> ?_⟩
   . rw[cR,k8]
     cases hp:p k with
     | true=>
       rw[if_pos rfl,if_pos rfl,if_pos rfl,(ih e).2 k 1 (by omega) (by omega)]
       split<;>rfl
     |false=>rw[if_neg Bool.false_ne_true,if_neg Bool.false_ne_true,if_pos rfl,(ih e).1]
   . rw[cR,k8,if_neg (show¬(⟨a,m⟩:Rn).m=0 by simp only;omega)]
     cases hp:p k with
     | true=>
       rw[if_pos rfl,if_pos rfl,(ih e).2 a (m+1) (by omega) (by omega),if_neg (show¬(k:Int)<k by omega)]
     | false=>
       rw[if_neg Bool.false_ne_true,if_neg Bool.false_ne_true,if_neg (show¬(⟨a,m⟩:Rn).m=0 by simp only;omega),dE];simp only;rw[h,(ih k).1]
       split<;>rfl
theorem yx (p:Nat->Bool) (f:Nat):∀(d k:Nat),(∀i,k<=i->i<k+d->p i=true)->k8 p k k (d+f)=k8 p ((k+d:Nat):Int) (k+d) f
 |0,k,_=>by simp
 | d+1,k,h=>by
   have ih:=yx p f d (k+1) fun i h1 h2=>h i (by omega) (by omega)
   rw[show d+1+f=(d+f)+1 by omega,k8,if_pos (h k (Nat.le_refl _) (by omega)),if_neg (show¬(k:Int)<k by omega),ih,show k+1+d=k+(d+1)by omega]
theorem nV (p:Nat->Bool):∀(f k:Nat) (bl:List Int) (e:Int),bl.Pairwise (· < ·)->(∀x∈bl,(k:Int)<=x/\x<(k+f:Nat))->(∀i,k<=i->i<k+f->p i=decide ((i:Int)∈bl))->k8 p e k f=cL e (bl++[((k+f:Nat):Int)])
 | 0,k,bl,e,_,h,_=>by
   cases bl with
   |nil=>simp[k8,cL]
   |cons x l=>have:=h x (List.mem_cons_self ..);omega
 | f+1,k,bl,e,hs,h,hp=>by
   have pk:=hp k (Nat.le_refl _) (by omega);rw[k8,show k+(f+1)=k+1+f by omega];by_cases hk:(k:Int)∈bl
   . rw[decide_eq_true hk]at pk;rw[if_pos pk]
     cases bl with
     |nil=>cases hk
     | cons x l=>
       obtain⟨s1,s2⟩:=List.pairwise_cons.1 hs
       have hx:x=k:=by
         rcases List.mem_cons.1 hk with e|e
         . exact e.symm
         . have:=s1 _ e;have:=h x (List.mem_cons_self ..);omega
       subst hx
       have ih:=nV p f (k+1) l ((k+1:Nat):Int) s2 (fun x hx=>by
         have:=s1 _ hx;have:=h x (List.mem_cons_of_mem _ hx)
         omega) (fun i h1 h2=>by
         rw[hp i (by omega) (by omega)];by_cases hm:(i:Int)∈l
         . rw[decide_eq_true hm,decide_eq_true (List.mem_cons_of_mem _ hm)]
         . rw[decide_eq_false hm,decide_eq_false];intro h3
           rcases List.mem_cons.1 h3 with h4|h4
           . omega
           . exact hm h4)
       rw[ih];rw[List.cons_append,cL];rfl
   . rw[decide_eq_false hk]at pk;rw[if_neg (by rw[pk];exact Bool.false_ne_true)]
     exact nV p f (k+1) bl e hs (fun x hx=>by
       have:=h x hx
       have:x≠k:=fun e=>hk (e▸hx)
       omega) fun i h1 h2=>hp i (by omega) (by omega)
theorem JA (p:Nat->Bool) (d f:Nat) (bl:List Int) (hs:bl.Pairwise (· < ·)) (h:∀x∈bl,(d:Int)<=x/\x<(d+f:Nat)) (h1:∀i,i<d->p i=true) (h2:∀i,d<=i->i<d+f->p i=decide ((i:Int)∈bl)):
   dE ((d+f:Nat):Int) 0 (cR p ⟨0,0⟩ 0 (d+f))=cL d (bl++[((d+f:Nat):Int)]):=by
 have e:=(sQ p (d+f) 0 0).1;rw[Nat.zero_add]at e;rw[e]
 have e2:=yx p f d 0 fun i _ hi=>h1 i (by omega)
 rw[Nat.zero_add]at e2;rw[show((0:Nat):Int)=0 from rfl]at e2;rw[e2];exact nV p f d bl d hs h h2
def cW (p:Nat->Bool):Nat->Nat
 |0=>0
 |n+1=>cW p n+(if p n then 1 else 0)
theorem pQ {p q:Nat->Bool}:∀n,(∀i,i<n->p i=q i)->cW p n=cW q n
 |0,_=>rfl
 |n+1,h=>by rw[cW,cW,pQ n fun i hi=>h i (by omega),h n (by omega)]
theorem mw (p:Nat->Bool):∀n,cW p n<=n
 |0=>Nat.le_refl _
 | n+1=>by
   have:=mw p n;rw[cW]
   split<;>omega
theorem mJ (p:Nat->Bool) (m:Nat):∀n,cW p (m+n)=cW p m+cW (fun i=>p (m+i)) n
 |0=>rfl
 | n+1=>by
   rw[<-Nat.add_assoc,cW,cW,mJ p m n];omega
theorem yk (p:Nat->Bool) {j:Nat}:∀n,j<n->p j=true->cW p n=cW (fun i=>p i&& !decide (i=j)) n+1
 | n+1,h,hj=>by
   rw[cW,cW];by_cases e:j=n
   . subst e
     have:=pQ (p:=p) (q:=fun i=>p i&& !decide (i=j)) j fun i hi=>by simp;intro _;omega
     simp[hj,this]
   . rw[yk p n (by omega) hj]
     have:(p n&& !decide (n=j))=p n:=by simp;intro _;omega
     rw[this];omega
theorem pZ (p:Nat->Bool):∀n,(∀i,i<n->p i=false)->cW p n=0
 |0,_=>rfl
 |n+1,h=>by rw[cW,pZ p n fun i hi=>h i (by omega),h n (by omega)];rfl
theorem yP (p:Nat->Bool):∀n,(∀i,i<n->p i=false)∨∃l,l<n/\p l=true/\∀i,i<l->p i=false
 |0=> .inl fun i h=>by omega
 | n+1=>by
   rcases yP p n with h|⟨l,h1,h2,h3⟩
   . cases hp:p n with
     |true=>exact .inr ⟨n,by omega,hp,h⟩
     | false=>
       refine .inl fun i hi=> ?_
       by_cases e:i=n
       . subst e;exact hp
       . exact h i (by omega)
   . exact .inr ⟨l,by omega,h2,h3⟩
theorem EC (p:Nat->Bool) {l:Nat} (hl:p l=true) (h:∀i,i<l->p i=false):∀n,l<n->wN p n=wN (fun i=>if i<l then true else if i=l then false else p i) n+1
 | n+1,hn=>by
   rw[wN,wN];by_cases e:n=l
   . subst e
     have e1:∀k,k<=n->wN p k=0:=fun k hk=>by rw[iv (q:=fun _=>false) k fun j hj=>h j (by omega),px]
     have e2:∀k,k<=n->wN (fun i=>if i<n then true else if i=n then false else p i) k+1=2^k:=fun k=>by
       induction k with
       |zero=>intro _;rfl
       | succ k ih=>
         intro hk;have:=ih (by omega);rw[wN,if_pos (show(if k<n then true else if k=n then false else p k)=true by rw[if_pos (by omega)]),Nat.pow_succ];omega
     have:=e2 n (Nat.le_refl _);rw[e1 n (Nat.le_refl _),if_pos hl]
     have e3:(if n<n then true else if n=n then false else p n)=false:=by simp
     rw[e3,if_neg Bool.false_ne_true];omega
   . have:=EC p hl h n (by omega)
     have e3:(if n<l then true else if n=l then false else p n)=p n:=by rw[if_neg (by omega),if_neg e]
     rw[e3,this];omega
theorem II (p:Nat->Bool) {l:Nat} (hl:p l=true) (h:∀i,i<l->p i=false) {n:Nat} (hn:l<n):wN p n&&& (wN p n-1)=wN (fun i=>p i&& !decide (i=l)) n:=by
 have e:=EC p hl h n hn
 have e2:wN p n-1=wN (fun i=>if i<l then true else if i=l then false else p i) n:=by omega
 rw[e2];apply Nat.eq_of_testBit_eq;intro i;rw[Nat.testBit_and,ix,ix,ix];by_cases hi:i<n
 . rw[decide_eq_true hi];by_cases h1:i<l
   . simp[h1,h i h1]
   . by_cases h2:i=l
     . subst h2;simp
     . simp[h1,h2]
 . rw[decide_eq_false hi];simp
theorem Ao (p:Nat->Bool) (n:Nat):wN p n=0↔∀i,i<n->p i=false:=by
 refine⟨fun h i hi=> ?_,fun h=>by rw[iv (q:=fun _=>false) n h,px]⟩;have:=ix p i n;rw[h,Nat.zero_testBit,decide_eq_true hi,Bool.true_and]at this;exact this.symm
end Go.Proofs.YtephfpdnhdpmkaaGreatDoor
namespace Go.Proofs.YtephfpdnhdpmkaaGreatDoor
open Go Go.Am Go.Spc Go.Rec
theorem AD {G:ab} {mo id n:Nat} {many:Int} {p:Nat->Bool} (B:BM G mo id n many p):(cbL tab).ic 74 [.ptr mo 0] G=some (.ret (.int .i64 many),G):=by
 have n0:=o9 B;obtain⟨m,w,lo,hi,few⟩:=B;have:=cK (tab:=tab) (f:=74) (fi:=c74) (args:=[.ptr mo 0]) (H:=G) (P:=fun o G'=>o= .ret (.int .i64 many)/\G'=G) rfl rfl (by simp[c74]) (by decide) ?_
 . obtain⟨o,G',e1,rfl,rfl⟩:=this;exact e1
 unfold c74;have l1:(cbL tab).cC 75=false:=rfl;simp(disch:=omega)only[wk,ae,↓reduceIte,reduceEqDiff,reduceEq,reduceAdd,reduceCtorEq,m,Dz,aI l1,n0]
theorem N4 (v:Nat) (H:ab):pcx (cbL tab) 74 [.ptr v 0] H=none:=br rfl (bH (fi:=c74) rfl rfl)
theorem N8 {x:Int} (h0:0<=x) (h1:x<=18446744073709551615) (H:ab):pcx (cbL tab) 141 [.int .u64 x] H=some (.plain (.int .i64 (tzM x))):=by
 refine aP rfl (MK (g:=tzC) rfl rfl ?_);unfold tzC;exact if_pos ⟨h0,h1⟩
theorem EY {x y:Nat} (hx:x<18446744073709551616) {xo yo:X} {ek:EqK} (hy:y<18446744073709551616):bC .and ek xo yo (.int .u64 (x:Int)) (.int .u64 (y:Int))=some (.int .u64 ((x&&& y:Nat):Int)):=by
 have e:bC .and ek xo yo (.int .u64 (x:Int)) (.int .u64 (y:Int))=some (.int .u64 (IntKind.u64.wrap (BitVec.ofInt IntKind.u64.bits (x:Int)&&& BitVec.ofInt IntKind.u64.bits (y:Int)).toNat)):=rfl;rw[e,dI,dI]
 have h2:(BitVec.ofNat 64 x&&& BitVec.ofNat 64 y).toNat=x&&& y:=by
   rw[BitVec.toNat_and,BitVec.toNat_ofNat,BitVec.toNat_ofNat,Nat.mod_eq_of_lt hx,Nat.mod_eq_of_lt hy]
 have h3:x&&& y<=x:=Nat.and_le_left;show some (AV.int .u64 (IntKind.u64.wrap (BitVec.ofNat 64 x&&& BitVec.ofNat 64 y).toNat))=_
 rw[h2,wrap_u64 (by omega) (by omega)]
theorem CW {p:Nat->Bool} {vb id N:Nat} {H:ab} (J:Nat->ab->Prop) (hN:N<=H.length) (hv:H[vb]? =some (.cells [.int .u64 (wN p 64:Nat)])) (hY:∀k x G,k<64->J k G->N<=G.length->∃G',(cbL tab).yl id [.int .i64 x] G=some (.ret (.bool true),G')/\N<=G'.length/\J (k+1) G') (j0:J 0 H):
   ∃G,(cbL tab).ic 140 [.yld id,.ptr vb 0] H=some (.ret (.tup []),G)/\J (cW p 64) G:=by
 have:=cK (tab:=tab) (f:=140) (fi:=Je) (args:=[.yld id,.ptr vb 0]) (H:=H) (P:=fun o G=>o= .ret (.tup [])/\J (cW p 64) G) rfl rfl (by simp[Je]) (by decide) ?_
 . obtain⟨o,G,e1,rfl,e2⟩:=this;exact⟨G,e1,e2⟩
 unfold Je;simp(disch:=omega)only[wk,ae,↓reduceIte,reduceEqDiff,reduceEq,reduceAdd,reduceCtorEq,hv]
 refine aR (fun(x:Nat×(Nat->Bool)) E df G=>x.1+cW x.2 64=cW p 64/\E 0= .yld id/\E 3= .int .u64 (wN x.2 64:Nat)/\J x.1 G/\N<=G.length/\df=[])
   (fun x=>cW x.2 64) (0,p) (by decide) (.inl rfl) ⟨Nat.zero_add _,rfl,rfl,j0,hN,rfl⟩ ?_
 intro ⟨k,q⟩ E df G ih hP;obtain⟨a1,E0,E3,jG,gN,hdf⟩:=hP;dsimp only at a1 E3 jG;subst hdf;have lt:=Ko q;by_cases hz:wN q 64=0
 . have hc:=pZ q 64 ((Ao q 64).1 hz);rw[hz]at E3;have E3:E 3= .int .u64 0:=E3;simp(disch:=omega)only[wk,ae,↓reduceIte,reduceEqDiff,reduceEq,reduceAdd,reduceCtorEq,E0,E3];rw[show cW p 64=k by omega];exact jG
 . obtain⟨l,h1,h2,h3⟩:=(yP q 64).resolve_left fun h=>hz ((Ao q 64).2 h)
   have cd:=yk q 64 h1 h2;have an:=II q h2 h3 h1
   have n1:¬((wN q 64:Nat):Int)=0:=by omega
   have tz:=fun H=>N8 (x:=(wN q 64:Nat)) (by omega) (by omega) H
   obtain⟨G',y1,y2,y3⟩:=hY k (tzM (wN q 64:Nat)) G (by have:=mw p 64;omega) jG gN
   have w1:IntKind.u64.wrap ((wN q 64:Nat)-1:Int)=((wN q 64-1:Nat):Int):=by rw[wrap_u64 (by omega) (by omega)];omega
   have ua:=fun xo yo ek=>EY lt (show wN q 64-1<18446744073709551616 by omega) (xo:=xo) (yo:=yo) (ek:=ek)
   rw[an]at ua;simp(disch:=omega)only[wk,ae,↓reduceIte,reduceEqDiff,reduceEq,reduceAdd,reduceCtorEq,E0,E3,n1,tz,y1,w1,ua];exact ih (k+1,fun i=>q i&& !decide (i=l)) _ _ _ (by dsimp only;omega) ⟨by dsimp only;omega,by simp only[en,↓reduceIte,reduceEqDiff,E0],by simp only[en,↓reduceIte,reduceEqDiff],y3,y2,rfl⟩
theorem Hu (x:Int) (H:ab):(cbL tab).ic 111 [.int .u64 x] H=some (.ret (.fn 140 [.ptr H.length 0]),H++[.cells [.int .u64 x]]):=by
 have:=cK (tab:=tab) (f:=111) (fi:=Ft) (args:=[.int .u64 x]) (H:=H) (P:=fun o G=>o= .ret (.fn 140 [.ptr H.length 0])/\G=H++[.cells [.int .u64 x]]) rfl rfl (by simp[Ft]) (by decide) ?_
 . obtain⟨o,G,e1,rfl,rfl⟩:=this;exact e1
 unfold Ft;simp(disch:=omega)only[wk,ae,↓reduceIte,reduceEqDiff,reduceEq,reduceAdd,reduceCtorEq]
theorem MV (a:AV) (H:ab):pcx (cbL tab) 111 [a] H=none:=br rfl (bH (fi:=Ft) rfl rfl)
theorem I0 (p:Nat->Bool) (H:ab):pcx (cbL tab) 76 [.int .u64 (wN p 64:Nat)] H=some (.plain (.int .i64 (cW p 64:Nat))):=by
 refine aP rfl (ba (fi:=c76) rfl rfl (by simp[c76]) (by decide) ?_);unfold c76;rw[List.map_cons,List.map_nil,aC];have l1:(cbL tab).cC 111=false:=rfl;simp(disch:=omega)only[wk,ae,↓reduceIte,reduceEqDiff,reduceEq,reduceAdd,reduceCtorEq,MV,aI l1,Hu];refine iB (f:=140) (caps:=[.ptr 1 0]) (by simp only[en,↓reduceIte,reduceEqDiff,pS]) (fun tm ha=> ?_);obtain⟨bd,hbd⟩:∃bd:aD,bd= .block 1 (.region [ql 6 2,qn 7 .add (.t 6) (qi 1),qs 2 (.t 7)]):=⟨_,rfl⟩;rw[<-hbd];have h64:=mw p 64
 have hY:∀(k:Nat) (x:Int) (G:ab),k<64->G=[aj.cells [.int .i64 (k:Nat)],.cells [.int .u64 (wN p 64:Nat)],.cZ,.loop 0 .normal tm [5] .skip bd]->4<=G.length->∃G',(cbL tab).yl 3 [.int .i64 x] G=some (.ret (.bool true),G')/\4<=G'.length/\G'=[aj.cells [.int .i64 ((k+1:Nat):Int)],.cells [.int .u64 (wN p 64:Nat)],.cZ,.loop 0 .normal tm [5] .skip bd]:=by
   intro k x G hk hG h4;subst hG;have w1:IntKind.i64.wrap ((k:Int)+1)=(k:Int)+1:=wrap_i64 (by omega) (by omega);have key:=vJ (tab:=tab) (id:=3) (P:=fun b G'=>b=true/\G'=[aj.cells [.int .i64 ((k+1:Nat):Int)],.cells [.int .u64 (wN p 64:Nat)],.cZ,.loop 0 .normal tm [5] .skip bd]) (args:=[.int .i64 x]) (H:=[aj.cells [.int .i64 (k:Nat)],.cells [.int .u64 (wN p 64:Nat)],.cZ,.loop 0 .normal tm [5] .skip bd]) (aT rfl) ha rfl (by decide) (by decide) (by rw[hbd];decide) (by decide) (by rw[hbd];decide) ?_
   . obtain⟨b,G',y1,rfl,rfl⟩:=key;exact⟨_,y1,by simp,rfl⟩
   simp(disch:=omega)only[wk,ae,↓reduceIte,reduceEqDiff,reduceEq,reduceAdd,reduceCtorEq,gK,iG];refine⟨rfl,rfl,_,_,_,_,_,aT rfl, ?_⟩;generalize hL:aj.loop 1 .normal tm [5] .skip bd=lo;rw[hbd]at hL ⊢;simp(disch:=omega)only[wk,ae,↓reduceIte,reduceEqDiff,reduceEq,reduceAdd,reduceCtorEq,w1];refine⟨rfl,1,.normal,tm,[5],.skip,_,aT (by rw[<-hL];rfl),rfl, ?_⟩;simp
 obtain⟨G,g1,g2⟩:=CW (p:=p) (vb:=1) (id:=3) (N:=4) (H:=[.cells [.int .i64 0],.cells [.int .u64 (wN p 64:Nat)],.cZ,.loop 0 .normal tm [5] .skip bd]) (fun k G=>G=[.cells [.int .i64 (k:Nat)],.cells [.int .u64 (wN p 64:Nat)],.cZ,.loop 0 .normal tm [5] .skip bd]) (by simp) rfl hY rfl;subst g2;refine⟨_,_,0,.normal,tm,[5],.skip,bd,g1,aT rfl,by decide,rfl, ?_⟩;simp(disch:=omega)only[wk,ae,↓reduceIte,reduceEqDiff,reduceEq,reduceAdd,reduceCtorEq];rw[gH (k:=2) rfl];simp(disch:=omega)only[wk,ae,↓reduceIte,reduceEqDiff,reduceEq,reduceAdd,reduceCtorEq,aH,aL,aE,au,AV.hf,hfL]
theorem uL (l:List Rn):(ah rnA l).length=l.length*2:=dZ l
theorem jW (x:Rn):hfL (rnA x)=true:=rfl
theorem NN:∀l:List Rn,aw (ah rnA l)=true
 |[]=>rfl
 |x::l=>by rw[aK,cU,NN l];rfl
def Iu (l:List Rn) (v:AV):Prop:=∃s tk,v= .sl s l.length (ah rnA l) tk/\(l≠[]->s=2)/\tk.hf=true
def LY (G:ab) (v:AV) (l:List Rn):Prop:=(v= .sl 0 0 [] .z/\l=[])∨(l≠[]/\∃id,v= .rsl 2 id l.length/\G[id]? =some (.cells (ah rnA l)))
theorem xf {H:ab} {v:AV} {l:List Rn} (h:LY H v l) (hn:l.length<=100000) (x:Rn):
   ∃id H',jx 2 16 v (.sl 2 1 (rnA x) .ro) H=some (.val (.rsl 2 id (l.length+1)),H')/\H'[id]? =some (.cells (ah rnA (l++[x]))):=by
 have e1:(rnA x).length=2:=rfl;have e2:aw (rnA x)=true:=rfl;have e3:(rnA x).take 2=rnA x:=rfl
 rcases h with⟨rfl,rfl⟩|⟨hne,id,rfl,hid⟩
 . refine⟨H.length,H++[.cells (rnA x)], ?_,by simp[ah]⟩;simp[jx,Tk.empty,e1,e2,e3]
 . refine⟨H.length,H.set id .dead++[.cells (ah rnA l++rnA x)], ?_, ?_⟩
   . have h1:(l.length+1)*16<=70368744177664:=by omega
     have h2:l.length+1<=70368744177664:=by omega
     simp[jx,e1,e2,e3,hid,uL,NN,h1,h2]
   . rw[aO]
     have:(H.set id .dead).length=H.length:=by simp
     rw[List.getElem?_append_right (by omega),this,Nat.sub_self];simp[ah]
theorem pt (pre:List Rn) (x:Rn) (r:List Rn):List.drop (pre.length*2) (ah rnA (pre++x::r))= .int .i64 x.a:: .int .i64 x.m::ah rnA r:=by
 rw[eE,aK];rfl
theorem EB (pre:List Rn) (x:Rn) (j:Nat) (hj:j<2):(ah rnA (pre++[x]))[pre.length*2+j]? =(rnA x)[j]? :=by
 rw[aO,List.getElem?_append_right (by rw[uL];omega),uL,Nat.add_sub_cancel_left];show(rnA x++[])[j]? =_
 rw[List.append_nil]
theorem L7 (pre:List Rn) (x:Rn) (m:Int):List.take (pre.length*2+1) (ah rnA (pre++[x]))++[.int .i64 m]++List.drop (pre.length*2+1+1) (ah rnA (pre++[x]))=ah rnA (pre++[⟨x.a,m⟩]):=by
 rw[aO,aO];have:ah rnA [x]=[.int .i64 x.a,.int .i64 x.m]:=rfl;rw[this,List.take_append,List.drop_append,uL,List.take_of_length_le (by rw[uL];omega),List.drop_of_length_le (by rw[uL];omega),Nat.add_sub_cancel_left,show pre.length*2+1+1-pre.length*2=2 by omega];simp;rfl
def jr (l:List Int):List Rn:=l.foldl iH []
theorem Hr {G:ab} {v:AV} {l:List Rn} (h:LY G v l):∃w,Iu l w/\cT (some (.ret v,G))=some (.plain w):=by
 rcases h with⟨rfl,rfl⟩|⟨hne,id,rfl,hid⟩
 . exact⟨.sl 0 0 [] .z,⟨0,.z,rfl,fun h=>absurd rfl h,rfl⟩,rfl⟩
 . refine⟨.sl 2 l.length (ah rnA l) .ro,⟨2,.ro,rfl,fun _=>rfl,rfl⟩, ?_⟩
   have hk:(ah rnA l).map (bO G 3)=ah rnA l:=by
     clear hid hne
     induction l with
     |nil=>rfl
     |cons x l ih=>rw[aK,List.map_append,ih];rfl
   have hu:(ah rnA l).map au=ah rnA l:=by
     clear hid hne hk
     induction l with
     |nil=>rfl
     |cons x l ih=>rw[aK,List.map_append,ih];rfl
   have hlt:id<G.length:=(List.getElem?_eq_some_iff.1 hid).1
   have e1:bO G 4 (.rsl 2 id l.length)= .sl 2 l.length (ah rnA l) .ro:=by
     show(match G[id]? with|some (.cells cs)=>if l.length*2<=cs.length then AV.sl 2 l.length ((cs.take (l.length*2)).map (bO G 3)) .ro else .rsl 2 id l.length|_=> .rsl 2 id l.length)=_
     rw[hid];simp only[uL,Nat.le_refl,if_true];rw[List.take_of_length_le (by rw[uL];exact Nat.le_refl _),hk]
   have e2:kz G (.rsl 2 id l.length)= .sl 2 l.length (ah rnA l) .ro:=by
     show mZ (bO G 4 _)=_
     rw[e1];show AV.sl 2 l.length ((ah rnA l).map au) .ro=_
     rw[hu]
   simp only[cT,e2];rw[if_pos];simp[AV.hf,bz jW,Tk.hf]
theorem Oi {pre:List Rn} {z:Rn}:(pre++[z]).getLast? =some z:=by simp
theorem Gh {out:List Rn} {b N:Int} (h:∀x∈out,0<=x.a/\0<=x.m/\x.a+x.m<=N) (h0:0<=b) (h1:b<N):∀x∈iH out b,0<=x.a/\0<=x.m/\x.a+x.m<=N:=by
 intro x hx;unfold iH at hx;split at hx
 . rename_i y hy;have my:=List.mem_of_getLast? hy;have hb:=h y my;split at hx
   . rcases List.mem_append.1 hx with hx|hx
     . exact h x (List.dropLast_subset _ hx)
     . rw[List.mem_singleton.1 hx];dsimp only;omega
   . rcases List.mem_append.1 hx with hx|hx
     . exact h x hx
     . rw[List.mem_singleton.1 hx];dsimp only;omega
 . rcases List.mem_append.1 hx with hx|hx
   . exact h x hx
   . rw[List.mem_singleton.1 hx];dsimp only;omega
theorem CI (out:List Rn) (b:Int):(iH out b).length<=out.length+1:=by
 unfold iH;split
 . split<;>simp<;>omega
 . simp
theorem Fc {f:Frm} {rt:Tv} {ns bl rl:List Int} {bv rv:AV} (I:Img f rt ns bl rl bv rv):∃w,Iu (jr (dq (fun b=> !decide (b∈bl)) (dF f) (f.b-dF f).toNat)) w/\∀H,
   pcx (cbL tab) 11 [.agg (bK f (mkT rt ns) bv rv)] H=some (.plain w):=by
 have rf:=fun H=>yK I H
 have hon:bG c11 [.agg (bK f (mkT rt ns) bv rv)]=true:=by
   simp only[bG,List.map_cons,List.map_nil,I.aE,c11];exact I.hf
 have o1:=I.b.one;have o2:=I.r.one;have li:=I.aE;have hf:=I.fo;unfold okF at hf;have b64:=I.b64
 have hd:0<=dF f:=by unfold dF;omega
 have gl:=mz (fun b=> !decide (b∈bl)) (f.b-dF f).toNat (dF f);have gg:=uE (P:=fun b=> !decide (b∈bl)) (f.b-dF f).toNat (dF f);generalize dq (fun b=> !decide (b∈bl)) (dF f) (f.b-dF f).toNat=L at*
 have l64:L.length<=64:=by omega
 have hb:∀x∈L,0<=x/\x<64:=fun x hx=>by have:=gg x hx;omega
 have key:∃r,(cbL tab).pc 11 [.agg (bK f (mkT rt ns) bv rv)]=some r/\∃w,Iu (jr L) w/\r= .plain w:=by
   refine Ba (fi:=c11) rfl hon (by simp[c11]) (by decide) ?_;unfold c11;rw[List.map_cons,List.map_nil,li];clear hon li I;generalize mkT rt ns=T at*;have im:bK f T bv rv=[.int .i64 f.b,.int .i64 f.i,.int .i64 f.r,.int .i64 f.t,.int .u64 5,.int .u64 6,.int .i64 9,.int .i64 (9+f.i/4),.int .i64 (9+f.i/4+f.r/4),.int .i64 (dF f),.sl 7 T.length (ah tvC T) .ro,bv,rv]:=rfl;rw[im]at rf ⊢
   cases L with
   | nil=>
     have rf:∀H,pcx (cbL tab) 29 _ H=some (.plain (.sl 0 0 [] .z)):=rf
     have n1:¬((0:Nat):Int)<((0:Nat):Int):=by omega
     have n2:¬(0:Int)<((0:Nat):Int):=by omega
     simp(disch:=omega)only[wk,ae,↓reduceIte,reduceEqDiff,reduceEq,reduceAdd,reduceCtorEq,o1,o2,rf];rw[eI];simp(disch:=omega)only[wk,ae,↓reduceIte,reduceEqDiff,reduceEq,reduceAdd,reduceCtorEq,n1,n2];exact⟨.plain (.sl 0 0 [] .z),rfl,.sl 0 0 [] .z,⟨0,.z,rfl,fun h=>absurd rfl h,rfl⟩,rfl⟩
   | cons x0 L=>
     rw[iP (by simp)]at rf;generalize x0::L=L at*;simp(disch:=omega)only[wk,ae,↓reduceIte,reduceEqDiff,reduceEq,reduceAdd,reduceCtorEq,o1,o2,rf]
     refine aR (fun(x:List Int×List Int) E df G=>L=x.1++x.2/\(∃g,E 3= .sl 1 L.length (ah bW L) (.own g))/\E 5= .int .i64 ((x.1.length:Nat):Int)/\df=[]/\LY G (E 4) (jr x.1)/\(jr x.1).length<=x.1.length/\(∀y∈jr x.1,0<=y.a/\0<=y.m/\y.a+y.m<=64))
       (fun x=>x.2.length) ([],L) (by decide) (.inl rfl) ⟨rfl,⟨_,rfl⟩,rfl,rfl,.inl ⟨rfl,rfl⟩,Nat.le_refl _,fun y hy=>by cases hy⟩ ?_
     intro ⟨pre,suf⟩ E df G ih hP;obtain⟨a1,⟨g,E3⟩,E5,hdf,hr,rlen,bd⟩:=hP;dsimp only at a1 E5 hr rlen bd;subst hdf
     have la:L.length=pre.length+suf.length:=by rw[a1,List.length_append]
     cases suf with
     | nil=>
       have n1:¬(pre.length:Int)<(L.length:Int):=by rw[la];simp
       have ep:pre=L:=by rw[a1];simp
       rw[ep]at hr;simp(disch:=omega)only[wk,ae,↓reduceIte,reduceEqDiff,reduceEq,reduceAdd,reduceCtorEq,E3,E5,n1];obtain⟨w,w1,w2⟩:=Hr hr;exact⟨_,w2,w,w1,rfl⟩
     | cons b r=>
       rw[List.length_cons]at la
       have n1:(pre.length:Int)<(L.length:Int):=by omega
       have d1:=jU pre b r;rw[<-a1]at d1;obtain⟨hb0,hb1⟩:=hb b (by rw[a1];simp)
       have sn:jr (pre++[b])=iH (jr pre) b:=by unfold jr;rw[List.foldl_append];rfl
       have bd2:=Gh bd hb0 hb1;have sl:=CI (jr pre) b;rw[<-sn]at bd2 sl;generalize jr pre=R at*
       rcases List.eq_nil_or_concat R with rfl|⟨Q,x,rfl⟩
       . rcases hr with⟨e4,_⟩|⟨h,_⟩
         case inr=>exact absurd rfl h
         obtain⟨id,H',ap,hid⟩:=xf (H:=G) (v:= .sl 0 0 [] .z) (l:=[]) (.inl ⟨rfl,rfl⟩) (by simp) ⟨b,1⟩;have ap:jx 2 16 (.sl 0 0 [] .z) (.sl 2 1 [.int .i64 b,.int .i64 1] .ro) G=some (.val (.rsl 2 id 1),H'):=ap
         have n2:¬(0:Int)<=((0:Nat):Int)-1:=by omega
         simp(disch:=omega)only[wk,ae,↓reduceIte,reduceEqDiff,reduceEq,reduceAdd,reduceCtorEq,E3,e4,E5,n1,n2,d1,ap,Int.reduceToNat,Int.reduceAdd,Int.reduceSub,Int.reduceMul,Int.reduceNeg,Nat.reduceSub,Nat.reduceDiv,aB,bM];refine ih (pre++[b],r) _ _ _ (by simp) ⟨by simp[a1],⟨g,by simp only[en,↓reduceIte,reduceEqDiff,E3]⟩,by simp only[en,↓reduceIte,reduceEqDiff],rfl, ?_, ?_, ?_⟩
         . dsimp only;simp only[en,↓reduceIte,reduceEqDiff];rw[sn];exact .inr ⟨by simp[iH],id,rfl,hid⟩
         . dsimp only;simp;simp at sl;omega
         . exact bd2
       . simp only[List.concat_eq_append]at*
         rcases hr with⟨_,h⟩|⟨_,id,e4,hid⟩
         . simp at h
         have lq:(Q++[x]).length=Q.length+1:=by simp
         rw[lq]at e4 rlen;obtain⟨x1,x2,x3⟩:=bd x (by simp)
         have sq:(Q.length:Int)+1-1=(Q.length:Int):=by omega
         have q0:(0:Int)<=(Q.length:Int):=by omega
         have q1:(Q.length:Int)<(Q.length:Int)+1:=by omega
         have ws:IntKind.i64.wrap (x.a+x.m)=x.a+x.m:=wrap_i64 (by omega) (by omega)
         have wq:IntKind.i64.wrap ((Q.length:Int)+1-1)=(Q.length:Int):=by rw[wrap_i64 (by omega) (by omega)];omega
         have g0:(ah rnA (Q++[x]))[Q.length*2]? =some (.int .i64 x.a):=EB Q x 0 (by decide);have g1:(ah rnA (Q++[x]))[Q.length*2+1]? =some (.int .i64 x.m):=EB Q x 1 (by decide);by_cases hx:x.a+x.m=b
         . have st:=L7 Q x (x.m+1);have wm:IntKind.i64.wrap (x.m+1)=x.m+1:=wrap_i64 (by omega) (by omega)
           have le:(ah rnA (Q++[x])).length=Q.length*2+2:=by rw[uL,lq];omega
           have lb:Q.length*2+1+1<=Q.length*2+2:=by omega
           have idl:id<G.length:=(List.getElem?_eq_some_iff.1 hid).1
           have sn2:jr (pre++[b])=Q++[⟨x.a,x.m+1⟩]:=by rw[sn,sI hx]
           simp(disch:=omega)only[wk,ae,↓reduceIte,reduceEqDiff,reduceEq,reduceAdd,reduceCtorEq,E3,e4,E5,n1,sq,wq,q0,q1,d1,hid,g0,g1,ws,hx,wm,st,le,lb,Int.reduceToNat,Int.reduceAdd,Int.reduceSub,Int.reduceMul,Int.reduceNeg,Nat.reduceSub,Nat.reduceDiv,aB,bM];refine ih (pre++[b],r) _ _ _ (by simp) ⟨by simp[a1],⟨g,by simp only[en,↓reduceIte,reduceEqDiff,E3]⟩,by simp only[en,↓reduceIte,reduceEqDiff],rfl, ?_, ?_, ?_⟩
           . dsimp only;simp only[en,↓reduceIte,reduceEqDiff,e4];rw[sn2];exact .inr ⟨by simp,id,by simp,List.getElem?_set_self idl⟩
           . dsimp only;rw[sn2];simp;omega
           . exact bd2
         . obtain⟨id2,H',ap,hid2⟩:=xf (H:=G) (v:= .rsl 2 id (Q++[x]).length) (l:=Q++[x]) (.inr ⟨by simp,id,rfl,hid⟩) (by simp;omega) ⟨b,1⟩;rw[lq]at ap;have ap:jx 2 16 (.rsl 2 id (Q.length+1)) (.sl 2 1 [.int .i64 b,.int .i64 1] .ro) G=some (.val (.rsl 2 id2 (Q.length+1+1)),H'):=ap
           have sn2:jr (pre++[b])=Q++[x]++[⟨b,1⟩]:=by
             rw[sn,uf];intro y hy;rw[Oi]at hy
             cases hy;exact hx
           simp(disch:=omega)only[wk,ae,↓reduceIte,reduceEqDiff,reduceEq,reduceAdd,reduceCtorEq,E3,e4,E5,n1,sq,wq,q0,q1,d1,hid,g0,g1,ws,hx,ap,Int.reduceToNat,Int.reduceAdd,Int.reduceSub,Int.reduceMul,Int.reduceNeg,Nat.reduceSub,Nat.reduceDiv,aB,bM];refine ih (pre++[b],r) _ _ _ (by simp) ⟨by simp[a1],⟨g,by simp only[en,↓reduceIte,reduceEqDiff,E3]⟩,by simp only[en,↓reduceIte,reduceEqDiff],rfl, ?_, ?_, ?_⟩
           . dsimp only;simp only[en,↓reduceIte,reduceEqDiff];rw[sn2];exact .inr ⟨by simp,id2,by simp,hid2⟩
           . dsimp only;rw[sn2];simp;omega
           . exact bd2
 obtain⟨r,k1,w,k2,rfl⟩:=key;exact⟨w,k2,fun H=>aP rfl k1⟩
theorem NO:∀l:List Int,aw (ah bW l)=true
 |[]=>rfl
 |x::l=>by rw[aK,cU,NO l];rfl
theorem zq {s:Nat} {tk:Tk} (h:tk.hf=true):∃s' tk',(tk'= .z/\s'=0∨tk'= .e/\s'=1)/\∀H,pcx (cbL tab) 39 [.sl s 0 [] tk] H=some (.plain (.sl s' 0 [] tk')):=by
 cases hz:tk.isZ with
 | true=>
   refine⟨0,.z,.inl ⟨rfl,rfl⟩,fun H=>aP rfl (ba (fi:=c39) rfl ?_ (by simp[c39]) (by decide) ?_)⟩
   . simp only[bG,List.map_cons,List.map_nil,hfT h,c39,hfL,AV.hf,h,Bool.and_self]
   unfold c39;rw[List.map_cons,List.map_nil,hfT h];simp(disch:=omega)only[wk,ae,↓reduceIte,reduceEqDiff,reduceEq,reduceAdd,reduceCtorEq,slZ,hz,Fj]
 | false=>
   refine⟨1,.e,.inr ⟨rfl,rfl⟩,fun H=>aP rfl (ba (fi:=c39) rfl ?_ (by simp[c39]) (by decide) ?_)⟩
   . simp only[bG,List.map_cons,List.map_nil,hfT h,c39,hfL,AV.hf,h,Bool.and_self]
   unfold c39;rw[List.map_cons,List.map_nil,hfT h];simp(disch:=omega)only[wk,ae,↓reduceIte,reduceEqDiff,reduceEq,reduceAdd,reduceCtorEq,slZ,hz,wP (z:=1) (by decide),D9]
theorem CA {l:List Int} (hl:l.length<=1000) (h0:l≠[]) {tk:Tk} (h:tk.hf=true) (hz:tk≠ .z) (H:ab):pcx (cbL tab) 39 [.sl 1 l.length (ah bW l) tk] H=some (.fresh 1 l.length (ah bW l)):=by
 have hh:=bz (f:=bW) (fun _=>rfl) l
 have n0:l.length≠0:=fun e=>h0 (List.eq_nil_of_length_eq_zero e)
 have hz:tk.isZ=false:=by cases tk<;>first|rfl|exact absurd rfl hz
 refine aP rfl (ba (fi:=c39) rfl ?_ (by simp[c39]) (by decide) ?_)
 . simp only[bG,List.map_cons,List.map_nil,hfT h,c39,hfL,AV.hf,h,hh,Bool.and_self]
 unfold c39;rw[List.map_cons,List.map_nil,hfT h];have own0:Own ([]:ab) 1 (.sl 1 0 [] .e) 0 []:= .inl ⟨.inr rfl,rfl,rfl⟩;simp(disch:=omega)only[wk,ae,↓reduceIte,reduceEqDiff,reduceEq,reduceAdd,reduceCtorEq,slZ,hz];refine bJ own0 (by omega) (by omega) (by omega) n0 (by rw[dZ]) (NO _) (fun H2 q1 q2 q3=> ?_);simp only[Nat.zero_add,List.nil_append]at q1 ⊢;simp(disch:=omega)only[wk,ae,↓reduceIte,reduceEqDiff,reduceEq,reduceAdd,reduceCtorEq];rw[<-iP (f:=bW) (sz:=1) h0];exact fN (fun _=>rfl) q1 (fun e=>absurd e h0)
theorem FY {l:List Int} {v:AV} (hv:dU l v) (hz:l≠[]->∀s n cs,v≠ .sl s n cs .z) (hl:l.length<=1000) (x:Int):
   ((∀H,pcx (cbL tab) 39 [v] H=some (.plain (.sl 0 0 [] .z)))/\∀h G g,mK h 1 8 [] (.sl 0 0 [] .z) (.sl 1 1 [.int .i64 x] .ro) G g=some (.sl 1 (l.length+1) (ah bW (l++[x])) (.own g),some (.tok 1)))∨
   ((∀H,pcx (cbL tab) 39 [v] H=some (.plain (.sl 1 0 [] .e)))/\∀h G g,mK h 1 8 [] (.sl 1 0 [] .e) (.sl 1 1 [.int .i64 x] .ro) G g=some (.sl 1 (l.length+1) (ah bW (l++[x])) (.own g),some (.tok 1)))∨
   ((∀H,pcx (cbL tab) 39 [v] H=some (.fresh 1 l.length (ah bW l)))/\∀(H:ab) a g,mK (H.length+1) 1 8 [] (.sl 1 l.length (ah bW l) (.own (H.length+1))) (.sl 1 1 [.int .i64 x] .ro) (H++[a]++[.tok 1]) g=some (.sl 1 (l.length+1) (ah bW (l++[x])) (.own g),some (.tok 1))):=by
 obtain⟨s,tk,rfl,hs,ht⟩:=hv;by_cases h0:l=[]
 . subst h0;obtain⟨s',tk',hz',cp⟩:=zq (s:=s) ht
   rcases hz' with⟨rfl,rfl⟩|⟨rfl,rfl⟩
   . exact .inl ⟨cp,fun h G g=>rfl⟩
   . exact .inr (.inl ⟨cp,fun h G g=>rfl⟩)
 . have:=hs h0;subst this;refine .inr (.inr ⟨fun H=>CA hl h0 ht (fun e=>hz h0 1 _ _ (by rw[e])) H,fun H a g=> ?_⟩)
   have hg:(H++[a]++[aj.tok 1])[H.length+1]? =some (.tok 1):=by
     rw[List.append_assoc,List.getElem?_append_right (by omega),show H.length+1-H.length=1 by omega];rfl
   have hr:Fm 1 8 [] (.sl 1 1 [.int .i64 x] .ro)=some (1,[.int .i64 x]):=rfl;simp only[mK,mL,hr,hg];rw[if_pos ⟨Nat.le_refl _,trivial,trivial,by omega,by omega,by omega⟩,aO];rfl
theorem C7 {f:Frm} {rt:Tv} {ns bl rl:List Int} {bv rv:AV} (I:Img f rt ns bl rl bv rv) (hz:bl≠[]->∀s n cs,bv≠ .sl s n cs .z) (ok:okI f bl rl=true) {vb id N:Nat} {H:ab} (J:List Rn->ab->Prop) (Dn:ab->Prop)
   (hN:N<=H.length) (hvH:H[vb]? =some (.cells (bK f (mkT rt ns) bv rv)))
   (hY:∀pre x post G,cL (dF f) (bl++[f.b])=pre++x::post->J pre G->N<=G.length->∃b G',(cbL bc).yl id [.agg (rnA x)] G=some (.ret (.bool b),G')/\N<=G'.length/\if b=true then J (pre++[x]) G' else Dn G')
   (j0:∀L,J [] (H++L)):
   ∃G,(cbL bc).ic 37 [.yld id,.ptr vb 0] H=some (.ret (.tup []),G)/\(J (cL (dF f) (bl++[f.b])) G∨Dn G):=by
 have:=cK (tab:=bc) (f:=37) (fi:=c37) (args:=[.yld id,.ptr vb 0]) (H:=H) (P:=fun o G=>o= .ret (.tup [])/\(J (cL (dF f) (bl++[f.b])) G∨Dn G)) rfl rfl (by simp[c37]) (by decide) ?_
 . obtain⟨o,G,e1,rfl,e2⟩:=this;exact⟨G,e1,e2⟩
 have so:=fun H=>zI I H
 rw[ok]at so;simp only[if_true]at so;have hf:=I.fo;unfold okF at hf;have b64:=I.b64;have o1:=I.b.one;have o2:=I.r.one;have ca:=FY I.b hz (by have:=I.lb;omega) f.b;have rm:=(jK ((Bool.and_eq_true _ _).mp (show(gn (9+f.i/4+f.r/4+1) f.b none bl&&gn 1 (f.r+1) none rl)=true from ok)).1);have lb:=I.lb;obtain⟨L,hL⟩:∃L,L=bl++[f.b]:=⟨_,rfl⟩
 have lL:L.length=bl.length+1:=by rw[hL];simp
 have hLm:∀x∈L,0<=x/\x<=64:=fun x hx=>by
   rw[hL]at hx
   rcases List.mem_append.1 hx with hx|hx
   . have:=rm.1 x hx;omega
   . rw[List.mem_singleton.1 hx];omega
 rw[<-hL]at hY ⊢;clear I;generalize mkT rt ns=T at*;have im:bK f T bv rv=[.int .i64 f.b,.int .i64 f.i,.int .i64 f.r,.int .i64 f.t,.int .u64 5,.int .u64 6,.int .i64 9,.int .i64 (9+f.i/4),.int .i64 (9+f.i/4+f.r/4),.int .i64 (dF f),.sl 7 T.length (ah tvC T) .ro,bv,rv]:=rfl
 have g0:∀L:List aj,(H++L)[H.length]? =L[0]? :=fun L=>by rw[List.getElem?_append_right (Nat.le_refl _),Nat.sub_self]
 have t0:∀(L:List aj) (o:aj),(H++L).set H.length o=H++L.set 0 o:=fun L o=>by rw[List.set_append_right _ _ (Nat.le_refl _),Nat.sub_self]
 unfold c37;rw[im]at so hvH
 rcases ca with⟨cp,ap⟩|⟨cp,ap⟩|⟨cp,ap⟩<;>have cp:=fun H=>toR (cp H)
 all_goals simp(disch:=omega)only[wk,ae,↓reduceIte,reduceEqDiff,reduceEq,reduceAdd,reduceCtorEq,so,hvH,o1,o2,g0,t0,cp,ap,lY,Int.reduceToNat,Int.reduceAdd,Int.reduceSub,Int.reduceMul,Int.reduceNeg,Nat.reduceSub,Nat.reduceDiv]
 all_goals
   refine aR (fun(x:List Int×List Int) E df G=>L=x.1++x.2/\(∃e G1,E 5= .int .i64 e/\cL (dF f) L=G1++cL e x.2/\J G1 G/\0<=e/\e<=65)/\N<=G.length/\E 0= .yld id/\(∃g,E 29= .sl 1 L.length (ah bW L) (.own g))/\E 30= .int .i64 ((L.length:Nat):Int)/\E 31= .int .i64 ((x.1.length:Nat):Int)/\df=[])
     (fun x=>x.2.length) ([],L) (by decide) (.inl rfl) ⟨rfl,⟨dF f,[],rfl,rfl,by(try unfold mY);rw[List.append_assoc];exact j0 _,by unfold dF;omega,by unfold dF;omega⟩,by(try unfold mY);simp;omega,rfl,⟨_,by rw[lL,hL];rfl⟩,by rw[lL];rfl,rfl,rfl⟩ ?_
   intro ⟨pre,suf⟩ E df G ih hP;obtain⟨a1,⟨e,G1,E5,gp,jG,e0,e65⟩,gN,E0,⟨g,E29⟩,E30,E31,hdf⟩:=hP;dsimp only at a1 gp E31;subst hdf
   have la:L.length=pre.length+suf.length:=by rw[a1,List.length_append]
   cases suf with
   | nil=>
     have n1:¬(pre.length:Int)<(L.length:Int):=by rw[la];simp
     simp(disch:=omega)only[wk,ae,↓reduceIte,reduceEqDiff,reduceEq,reduceAdd,reduceCtorEq,E0,E5,E29,E30,E31,n1];rw[gp];simp only[cL,List.append_nil];exact .inl jG
   | cons b r=>
     rw[List.length_cons]at la
     have n1:(pre.length:Int)<(L.length:Int):=by omega
     have d1:=jU pre b r;rw[<-a1]at d1;obtain⟨b0,b1⟩:=hLm b (by rw[a1];simp);have w1:IntKind.i64.wrap (b+1)=b+1:=wrap_i64 (by omega) (by omega);rw[cL]at gp;by_cases hb:e<b
     . rw[if_pos hb]at gp;have w2:IntKind.i64.wrap (b-e)=b-e:=wrap_i64 (by omega) (by omega);obtain⟨c,G',y1,y2,y3⟩:=hY G1 ⟨e,b-e⟩ (cL (b+1) r) G gp jG gN;have y1:(cbL bc).yl id [.agg [.int .i64 e,.int .i64 (b-e)]] G=some (.ret (.bool c),G'):=y1
       cases c with
       | false=>
         rw[if_neg Bool.false_ne_true]at y3;simp(disch:=omega)only[wk,ae,↓reduceIte,reduceEqDiff,reduceEq,reduceAdd,reduceCtorEq,E0,E5,E29,E30,E31,n1,d1,hb,w1,w2,y1,Int.reduceToNat,Int.reduceAdd,Int.reduceSub,Int.reduceMul,Int.reduceNeg,Nat.reduceSub,Nat.reduceDiv,aB,bM];exact .inr y3
       | true=>
         rw[if_pos rfl]at y3;simp(disch:=omega)only[wk,ae,↓reduceIte,reduceEqDiff,reduceEq,reduceAdd,reduceCtorEq,E0,E5,E29,E30,E31,n1,d1,hb,w1,w2,y1,Int.reduceToNat,Int.reduceAdd,Int.reduceSub,Int.reduceMul,Int.reduceNeg,Nat.reduceSub,Nat.reduceDiv,aB,bM];exact ih (pre++[b],r) _ _ _ (by simp) ⟨by simp[a1],⟨b+1,G1++[⟨e,b-e⟩],by simp only[en,↓reduceIte,reduceEqDiff],by rw[gp];simp,y3,by omega,by omega⟩,y2,by simp only[en,↓reduceIte,reduceEqDiff,E0],⟨g,by simp only[en,↓reduceIte,reduceEqDiff,E29]⟩,by simp only[en,↓reduceIte,reduceEqDiff,E30],by simp only[en,↓reduceIte,reduceEqDiff],rfl⟩
     . rw[if_neg hb]at gp;simp(disch:=omega)only[wk,ae,↓reduceIte,reduceEqDiff,reduceEq,reduceAdd,reduceCtorEq,E0,E5,E29,E30,E31,n1,d1,hb,w1,Int.reduceToNat,Int.reduceAdd,Int.reduceSub,Int.reduceMul,Int.reduceNeg,Nat.reduceSub,Nat.reduceDiv,aB,bM];exact ih (pre++[b],r) _ _ _ (by simp) ⟨by simp[a1],⟨b+1,G1,by simp only[en,↓reduceIte,reduceEqDiff],gp,jG,by omega,by omega⟩,gN,by simp only[en,↓reduceIte,reduceEqDiff,E0],⟨g,by simp only[en,↓reduceIte,reduceEqDiff,E29]⟩,by simp only[en,↓reduceIte,reduceEqDiff,E30],by simp only[en,↓reduceIte,reduceEqDiff],rfl⟩
theorem tR {v:AV} (h:OkS (.int .i64) v):∃n:Int,v= .int .i64 n:=by
 cases h;exact⟨_,rfl⟩
theorem EL:∀(rows:List (List AV)),(∀r∈rows,r.length=1)->(∀r∈rows,∀(i:Nat) (s:Sh) (v:AV),([.int .i64]:List Sh)[i]? =some s->r[i]? =some v->OkS s v)->∃l:List Int,rows.flatten=ah bW l/\rows.length=l.length
 |[],_,_=>⟨[],rfl,rfl⟩
 | r::rows,h1,h2=>by
   obtain⟨l,e1,e2⟩:=EL rows (fun x hx=>h1 x (List.mem_cons_of_mem _ hx)) (fun x hx=>h2 x (List.mem_cons_of_mem _ hx));have hr:=h1 r (List.mem_cons_self ..)
   match r,hr with
   | [v],_=>
     obtain⟨n,rfl⟩:=tR (h2 [v] (List.mem_cons_self ..) 0 (.int .i64) v rfl rfl);refine⟨n::l, ?_,by rw[List.length_cons,List.length_cons,e2]⟩
     rw[List.flatten_cons,e1];rfl
theorem Ah {v:AV} (h:OkS (.slice [.int .i64]) v):∃l,dU l v:=by
 cases h with
 |slnil=>exact⟨[],1,.z,rfl,fun _=>rfl,rfl⟩
 | sl _ rows h hl hr=>
   obtain⟨l,e1,e2⟩:=EL rows hl hr;exact⟨l,1,.ro,by rw[e1,e2];rfl,fun _=>rfl,rfl⟩
def NzR (l:List Int) (v:AV):Prop:=l≠[]->∀s n cs,v≠ .sl s n cs .z
theorem D0 {v:AV} (h:OkS (.slice [.int .i64]) v):∃l,dU l v/\NzR l v:=by
 cases h with
 |slnil=>exact⟨[],⟨1,.z,rfl,fun _=>rfl,rfl⟩,fun h=>absurd rfl h⟩
 | sl _ rows h hl hr=>
   obtain⟨l,e1,e2⟩:=EL rows hl hr;exact⟨l,⟨1,.ro,by rw[e1,e2];rfl,fun _=>rfl,rfl⟩,fun _ s n cs e=>by cases e⟩
theorem I8 {x:List AV} (o:OkL [.int .i64,.int .i64,.int .i64,.int .i64,.slice [.int .i64],.slice [.int .i64],.slice [.int .i64]] x):∃f bl rl fl bv rv fv,.agg x=kY f bv rv fv/\dU bl bv/\dU rl rv/\dU fl fv/\NzR bl bv:=by
 obtain⟨hl,ho⟩:=o
 match x,hl with
 | [a,b,c,d,e,f,g],_=>
   obtain⟨n0,rfl⟩:=tR (ho 0 _ a rfl rfl);obtain⟨n1,rfl⟩:=tR (ho 1 _ b rfl rfl);obtain⟨n2,rfl⟩:=tR (ho 2 _ c rfl rfl);obtain⟨n3,rfl⟩:=tR (ho 3 _ d rfl rfl);obtain⟨bl,hb,hz⟩:=D0 (ho 4 _ e rfl rfl);obtain⟨rl,hr⟩:=Ah (ho 5 _ f rfl rfl);obtain⟨fl,hf⟩:=Ah (ho 6 _ g rfl rfl);exact⟨⟨n0,n1,n2,n3⟩,bl,rl,fl,e,f,g,rfl,hb,hr,hf,hz⟩
def OH:aD:=(.region [qo 11 (.alloc [(.int .i64 0),(.int .i64 0)]),qe (.store 2 (.t 11) (.t 34))])
def OM:aD:=(.block 3 (.seq (.seq (.drawn [ql 35 10,ql 36 7,qo 37 (.len 0 (.t 36)),qn 38 .geq (.t 35) (.t 37),qm 39 38,qg 40 (.load 2 true (.t 11)) 39 false,qg 41 (.load 1 false (.t 7)) 39 false,qg 42 (.load 1 false (.t 10)) 39 false,qg 43 (.ixa 2 (.t 41) (.t 42)) 39 false,qg 44 (.load 2 true (.t 43)) 39 false] [qg 45 (.bin .neq (.struct [0,0]) (.t 40) (.t 44)) 39 false,qk 46 39 qt (.t 45)]) (.cond (.t 46) (.seq (.region [qs 4 qz]) .ret) .skip)) (.seq (.region [ql 47 10,qn 48 .add (.t 47) (qi 1),qs 10 (.t 48)]) (.seq (.region [ql 49 9,qn 50 .eql (.t 49) (qi 0),qm 51 50,qg 52 (.load 1 false (.t 10)) 51 true,qg 53 (.load 1 false (.t 3)) 51 true,qg 54 (.bin .geq .num (.t 52) (.t 53)) 51 true,qk 55 51 (.t 54) qz]) (.cond (.t 55) (.exit 2) .skip)))))
structure RuS (C:List AV) (W:List Rn) (w:AV) (many t:Int) (N vb mb wb tb nb:Nat) (lo:aj) (j:Nat) (G:ab):Prop where
 v:G[vb]? =some (.cells C)
 m:G[mb]? =some (.cells [.int .i64 many])
 w:G[wb]? =some (.cells [w])
 t:G[tb]? =some (.cells [.int .i64 t])
 n:G[nb]? =some (.cells [.int .i64 (j:Int)])
 d:G[N]? =some .cZ
 l:G[N+1]? =some lo
theorem NU {xo yo:X} (a m:Int):bC .neq (.struct [0,0]) xo yo (.agg [.int .i64 a,.int .i64 m]) (.agg [.int .i64 a,.int .i64 m])=some (.bool false):=by
 show(eqV (.struct [0,0]) (.agg [.int .i64 a,.int .i64 m]) (.agg [.int .i64 a,.int .i64 m])).map (fun b=>AV.bool (!b))=_
 have e:eqV (.struct [0,0]) (.agg [.int .i64 a,.int .i64 m]) (.agg [.int .i64 a,.int .i64 m])=aX [0,0] [.int .i64 a,.int .i64 m] [.int .i64 a,.int .i64 m]:=rfl;rw[e];simp only[aX,bk,if_true,beq_self_eq_true];rfl
theorem xE (a m:Int):aX [0,0] [AV.int .i64 a,.int .i64 m] [.int .i64 0,.int .i64 0]=some (decide (a=0)&&decide (m=0)):=by
 by_cases h:a=0
 . by_cases h2:m=0
   . subst h h2;rfl
   . have hb:(m==0)=false:=by simpa using h2
     subst h;simp[aX,bk,hb,h2]
 . have hb:(a==0)=false:=by simpa using h
   simp[aX,bk,hb,h]
theorem MW {xo yo:X} {r:Rn} (h:r.m=0->r.a=0):bC .eql (.struct [0,0]) xo yo (.agg [.int .i64 r.a,.int .i64 r.m]) (.agg [.int .i64 0,.int .i64 0])=some (.bool (decide (r.m=0))):=by
 show(eqV (.struct [0,0]) (.agg [.int .i64 r.a,.int .i64 r.m]) (.agg [.int .i64 0,.int .i64 0])).map AV.bool=_
 have e:eqV (.struct [0,0]) (.agg [.int .i64 r.a,.int .i64 r.m]) (.agg [.int .i64 0,.int .i64 0])=aX [0,0] [.int .i64 r.a,.int .i64 r.m] [.int .i64 0,.int .i64 0]:=rfl;rw[e,xE];by_cases h0:r.m=0
 . rw[h h0,h0];rfl
 . rw[decide_eq_false h0,Bool.and_false];rfl
theorem AP {xo yo:X} {r:Rn} (h:r.m=0->r.a=0):bC .neq (.struct [0,0]) xo yo (.agg [.int .i64 r.a,.int .i64 r.m]) (.agg [.int .i64 0,.int .i64 0])=some (.bool (!decide (r.m=0))):=by
 show(eqV (.struct [0,0]) (.agg [.int .i64 r.a,.int .i64 r.m]) (.agg [.int .i64 0,.int .i64 0])).map (fun b=>AV.bool (!b))=_
 have e:eqV (.struct [0,0]) (.agg [.int .i64 r.a,.int .i64 r.m]) (.agg [.int .i64 0,.int .i64 0])=aX [0,0] [.int .i64 r.a,.int .i64 r.m] [.int .i64 0,.int .i64 0]:=rfl;rw[e,xE];by_cases h0:r.m=0
 . rw[h h0,h0];rfl
 . rw[decide_eq_false h0,Bool.and_false];rfl
def vD (id N:Nat) (L:List Rn) (J:List Rn->ab->Prop) (Dn:ab->Prop):Prop:=
 ∀pre x post G,L=pre++x::post->J pre G->N<=G.length->∃b G',(cbL bc).yl id [.agg (rnA x)] G=some (.ret (.bool b),G')/\G.length<=G'.length/\(∀i,N<=i->i<G.length->G'[i]? =G[i]?)/\if b=true then J (pre++[x]) G' else Dn G'
theorem CH {n:Nat} {many:Nat} {p:Nat->Bool} {mo id vb yid N:Nat} {H:ab} (J:List Rn->ab->Prop) (Dn:ab->Prop)
   (hN:N<=H.length) (hv:∀pre G,J pre G->G[vb]? =some (.cells [.ptr mo 0])/\BM G mo id n many p)
   (hA:∀pre G G',J pre G->(∀i,i<N->G'[i]? =G[i]?)->J pre G') (hD:∀G G',Dn G->(∀i,i<N->G'[i]? =G[i]?)->Dn G')
   (hY:vD yid N (cR p ⟨0,0⟩ 0 many) J Dn) (j0:J [] H):
   ∃G,(cbL bc).ic 80 [.yld yid,.ptr vb 0] H=some (.ret (.tup []),G)/\(J (cR p ⟨0,0⟩ 0 many) G∨Dn G):=by
 have:=cK (tab:=bc) (f:=80) (fi:=c80) (args:=[.yld yid,.ptr vb 0]) (H:=H) (P:=fun o G=>o= .ret (.tup [])/\(J (cR p ⟨0,0⟩ 0 many) G∨Dn G)) rfl rfl (by simp[c80]) (by decide) ?_
 . obtain⟨o,G,e1,rfl,e2⟩:=this;exact⟨G,e1,e2⟩
 obtain⟨S,hS⟩:∃S,S=cR p ⟨0,0⟩ 0 many:=⟨_,rfl⟩;rw[<-hS]at hY ⊢
 have j1:J [] (H++[.cells [.int .i64 0,.int .i64 0]]):=hA _ _ _ j0 fun i hi=>List.getElem?_append_left (by omega)
 obtain⟨v1,B1⟩:=hv _ _ j1;have ln:=Fw (AD B1)
 have pl:∀(v:Nat) (H:ab),pcx (cbL bc) 74 [.ptr v 0] H=none:=fun v H=>br rfl (bH (fi:=c74) rfl rfl)
 have l1:(cbL bc).cC 74=false:=rfl;have l2:(cbL bc).cC 79=false:=rfl
 have ph:∀(id n:Nat) (a:AV) (H:ab),pcx (cbL bc) 79 [.msl 1 id 0 n,a] H=none:=fun id n a H=>br rfl (bH (fi:=c79) rfl rfl)
 have hi:=B1.hi;have few:=B1.few;unfold c80;simp(disch:=omega)only[wk,ae,↓reduceIte,reduceEqDiff,reduceEq,reduceAdd,reduceCtorEq,v1,pl,aI l1,ln]
 refine aR (fun(k:Nat) E df G=>k<=many/\E 0= .yld yid/\E 1= .ptr vb 0/\E 3= .ptr H.length 0/\E 6= .int .i64 (many:Int)/\E 7= .int .i64 (k:Int)/\df=[]/\H.length+1<=G.length∧
     ∃(r:Rn) (pre:List Rn),S=pre++cR p r k (many-k)/\J pre G/\G[H.length]? =some (.cells [.int .i64 r.a,.int .i64 r.m])/\(r.m=0->r.a=0)/\0<=r.m/\r.m<=k)
   (fun k=>many-k) 0 (by decide) (.inl rfl) ⟨Nat.zero_le _,rfl,rfl,rfl,rfl,rfl,rfl,by simp,⟨0,0⟩,[],hS,j1,by simp,fun _=>rfl,Int.le_refl _,Int.le_refl _⟩ ?_
 intro k E df G ih hP;obtain⟨hk,E0,E1,E3,E6,E7,hdf,gl,r,pre,e1,jG,gr,r0,r1,r2⟩:=hP;subst hdf;obtain⟨vG,BG⟩:=hv _ _ jG
 have is0:=fun xo yo=>MW (xo:=xo) (yo:=yo) r0
 have not0:=fun xo yo=>AP (xo:=xo) (yo:=yo) r0
 have st1:∀o:aj,(G.set H.length o)[H.length]? =some o:=fun o=>List.getElem?_set_self (by omega)
 have jst:∀pre o,J pre G->J pre (G.set H.length o):=fun pre o h=>hA _ _ _ h fun i hi=>List.getElem?_set_ne (by omega)
 by_cases hkm:k<many
 . have n1:(k:Int)<(many:Int):=by omega
   have hs:=Fw (Me BG (k:=k) (by omega));have mG:=BG.m;obtain⟨f,hf⟩:∃f,many-k=f+1:=⟨many-k-1,by omega⟩
   have hf2:f=many-(k+1):=by omega
   rw[hf,cR]at e1
   cases hp:p k with
   | true=>
     rw[hp]at hs e1;rw[if_pos rfl]at e1;by_cases hm:r.m=0
     . rw[if_pos hm,hf2]at e1;simp(disch:=omega)only[wk,ae,↓reduceIte,reduceEqDiff,reduceEq,reduceAdd,reduceCtorEq,E0,E1,E3,E6,E7,n1,vG,mG,gr,ph,aI l2,hs,is0,not0,hm,st1];exact ih (k+1) _ _ _ (by omega) ⟨by omega,by simp only[en,↓reduceIte,reduceEqDiff,E0],by simp only[en,↓reduceIte,reduceEqDiff,E1],by simp only[en,↓reduceIte,reduceEqDiff,E3],by simp only[en,↓reduceIte,reduceEqDiff,E6],by simp only[en,↓reduceIte,reduceEqDiff],rfl,by simp;omega,⟨k,1⟩,pre,e1,jst _ _ jG,st1 _,by simp,by simp,by simp;omega⟩
     . rw[if_neg hm,hf2]at e1;have w1:IntKind.i64.wrap (r.m+1)=r.m+1:=wrap_i64 (by omega) (by omega);simp(disch:=omega)only[wk,ae,↓reduceIte,reduceEqDiff,reduceEq,reduceAdd,reduceCtorEq,E0,E1,E3,E6,E7,n1,vG,mG,gr,ph,aI l2,hs,is0,not0,hm,st1,w1];exact ih (k+1) _ _ _ (by omega) ⟨by omega,by simp only[en,↓reduceIte,reduceEqDiff,E0],by simp only[en,↓reduceIte,reduceEqDiff,E1],by simp only[en,↓reduceIte,reduceEqDiff,E3],by simp only[en,↓reduceIte,reduceEqDiff,E6],by simp only[en,↓reduceIte,reduceEqDiff],rfl,by simp;omega,⟨r.a,r.m+1⟩,pre,e1,jst _ _ jG,st1 _,by simp only;omega,by simp only;omega,by simp only;omega⟩
   | false=>
     rw[hp]at hs e1;rw[if_neg Bool.false_ne_true]at e1;by_cases hm:r.m=0
     . rw[if_pos hm,hf2]at e1;have ra:=r0 hm;simp(disch:=omega)only[wk,ae,↓reduceIte,reduceEqDiff,reduceEq,reduceAdd,reduceCtorEq,E0,E1,E3,E6,E7,n1,vG,mG,gr,ph,aI l2,hs,is0,not0,hm,st1];exact ih (k+1) _ _ _ (by omega) ⟨by omega,by simp only[en,↓reduceIte,reduceEqDiff,E0],by simp only[en,↓reduceIte,reduceEqDiff,E1],by simp only[en,↓reduceIte,reduceEqDiff,E3],by simp only[en,↓reduceIte,reduceEqDiff,E6],by simp only[en,↓reduceIte,reduceEqDiff],rfl,gl,⟨0,0⟩,pre,e1,jG,by rw[gr,ra,hm],by simp,by simp,by simp only;omega⟩
     . rw[if_neg hm,hf2]at e1;obtain⟨b,G',y1,y2,y3,y4⟩:=hY pre r _ G e1 jG (by omega);have y1:(cbL bc).yl yid [.agg [.int .i64 r.a,.int .i64 r.m]] G=some (.ret (.bool b),G'):=y1;have gr':G'[H.length]? =some (.cells [.int .i64 r.a,.int .i64 r.m]):=(y3 _ hN (by omega)).trans gr
       have st2:∀o:aj,(G'.set H.length o)[H.length]? =some o:=fun o=>List.getElem?_set_self (by omega)
       have z0:=fun xo yo=>AP (xo:=xo) (yo:=yo) (r:=⟨0,0⟩) fun _=>rfl
       cases b with
       | false=>
         rw[if_neg Bool.false_ne_true]at y4;simp(disch:=omega)only[wk,ae,↓reduceIte,reduceEqDiff,reduceEq,reduceAdd,reduceCtorEq,E0,E1,E3,E6,E7,n1,vG,mG,gr,ph,aI l2,hs,is0,not0,hm,st1,y1,gr',st2,z0];exact .inr (hD _ _ y4 fun i hi=>List.getElem?_set_ne (by omega))
       | true=>
         rw[if_pos rfl]at y4;simp(disch:=omega)only[wk,ae,↓reduceIte,reduceEqDiff,reduceEq,reduceAdd,reduceCtorEq,E0,E1,E3,E6,E7,n1,vG,mG,gr,ph,aI l2,hs,is0,not0,hm,st1,y1,gr',st2];exact ih (k+1) _ _ _ (by omega) ⟨by omega,by simp only[en,↓reduceIte,reduceEqDiff,E0],by simp only[en,↓reduceIte,reduceEqDiff,E1],by simp only[en,↓reduceIte,reduceEqDiff,E3],by simp only[en,↓reduceIte,reduceEqDiff,E6],by simp only[en,↓reduceIte,reduceEqDiff],rfl,by simp;omega,⟨0,0⟩,pre++[r],by rw[e1];simp,hA _ _ _ y4 fun i hi=>List.getElem?_set_ne (by omega),st2 _,by simp,by simp,by simp only;omega⟩
 . have:many-k=0:=by omega
   rw[this,cR]at e1
   have n1:¬(k:Int)<(many:Int):=by omega
   by_cases hm:r.m=0
   . rw[if_pos hm,List.append_nil]at e1;simp(disch:=omega)only[wk,ae,↓reduceIte,reduceEqDiff,reduceEq,reduceAdd,reduceCtorEq,E0,E1,E3,E6,E7,n1,gr,is0,not0,hm];rw[e1];exact .inl jG
   . rw[if_neg hm]at e1;obtain⟨b,G',y1,y2,y3,y4⟩:=hY pre r [] G e1 jG (by omega);have y1:(cbL bc).yl yid [.agg [.int .i64 r.a,.int .i64 r.m]] G=some (.ret (.bool b),G'):=y1;simp(disch:=omega)only[wk,ae,↓reduceIte,reduceEqDiff,reduceEq,reduceAdd,reduceCtorEq,E0,E1,E3,E6,E7,n1,gr,is0,not0,hm,y1]
     cases b with
     |false=>rw[if_neg Bool.false_ne_true]at y4;exact .inr y4
     |true=>rw[if_pos rfl]at y4;rw[e1];exact .inl y4
theorem DF {f:Frm} {rt:Tv} {ns bl rl:List Int} {bv rv:AV} (I:Img f rt ns bl rl bv rv) (ok:okI f bl rl=false) {vb id:Nat} {H:ab} (hv:H[vb]? =some (.cells (bK f (mkT rt ns) bv rv))):
   ∃L,(cbL bc).ic 37 [.yld id,.ptr vb 0] H=some (.ret (.tup []),H++L):=by
 have:=cK (tab:=bc) (f:=37) (fi:=c37) (args:=[.yld id,.ptr vb 0]) (H:=H) (P:=fun o G=>o= .ret (.tup [])/\∃L,G=H++L) rfl rfl (by simp[c37]) (by decide) ?_
 . obtain⟨o,G,e1,rfl,L,rfl⟩:=this;exact⟨L,e1⟩
 have so:=fun H=>zI I H
 rw[ok]at so;simp only[Bool.false_eq_true,if_false]at so;clear I;generalize mkT rt ns=T at*;have im:bK f T bv rv=[.int .i64 f.b,.int .i64 f.i,.int .i64 f.r,.int .i64 f.t,.int .u64 5,.int .u64 6,.int .i64 9,.int .i64 (9+f.i/4),.int .i64 (9+f.i/4+f.r/4),.int .i64 (dF f),.sl 7 T.length (ah tvC T) .ro,bv,rv]:=rfl
 have g0:∀L:List aj,(H++L)[H.length]? =L[0]? :=fun L=>by rw[List.getElem?_append_right (Nat.le_refl _),Nat.sub_self]
 have t0:∀(L:List aj) (o:aj),(H++L).set H.length o=H++L.set 0 o:=fun L o=>by rw[List.set_append_right _ _ (Nat.le_refl _),Nat.sub_self]
 unfold c37;rw[im]at so hv;unfold z13 at so;simp(disch:=omega)only[wk,ae,↓reduceIte,reduceEqDiff,reduceEq,reduceAdd,reduceCtorEq,so,hv,g0,t0];exact⟨_,rfl⟩
def xQ (f:Frm) (bl rl:List Int):List Rn:=if okI f bl rl then cL (dF f) (bl++[f.b])else []
theorem zY {f:Frm} {rt:Tv} {ns bl rl:List Int} {bv rv:AV} (I:Img f rt ns bl rl bv rv) (hz:NzR bl bv) {vb id N:Nat} {H:ab} (J:List Rn->ab->Prop) (Dn:ab->Prop)
   (hN:N<=H.length) (hvH:H[vb]? =some (.cells (bK f (mkT rt ns) bv rv)))
   (hY:∀pre x post G,xQ f bl rl=pre++x::post->J pre G->N<=G.length->∃b G',(cbL bc).yl id [.agg (rnA x)] G=some (.ret (.bool b),G')/\N<=G'.length/\if b=true then J (pre++[x]) G' else Dn G')
   (j0:∀L,J [] (H++L)):
   ∃G,(cbL bc).ic 37 [.yld id,.ptr vb 0] H=some (.ret (.tup []),G)/\(J (xQ f bl rl) G∨Dn G):=by
 unfold xQ at*
 cases ok:okI f bl rl with
 | true=>
   rw[ok,if_pos rfl]at hY;rw[if_pos rfl];exact C7 I hz ok J Dn hN hvH hY j0
 | false=>
   rw[if_neg Bool.false_ne_true];obtain⟨L,hL⟩:=DF I ok (id:=id) hvH;exact⟨_,hL,.inl (j0 L)⟩
def PE:aD:=(.seq (.seq (.region [ql 29 9,qn 30 .lss (.t 29) (qi 2)]) (.cond (.t 30) .skip (.exit 0))) (.seq (.block 1 (.seq (.region [qo 10 (.alloc [(.int .i64 0)]),qs 10 (qi 0)]) (.seq (.seq (.region [qm 33 8]) (.block 2 (.range (.t 33) [34] OH OM))) (.seq (.region [ql 56 9,qn 57 .eql (.t 56) (qi 0),qm 58 57,qg 59 (.load 1 false (.t 10)) 58 true,qg 60 (.load 1 false (.t 7)) 58 true,qg 61 (.len 0 (.t 60)) 58 true,qg 62 (.load 1 false (.t 3)) 58 true,qg 63 (.mm true (qi 1) (.t 62)) 58 true,qg 64 (.mm false (.t 61) (.t 63)) 58 true,qg 65 (.bin .neq .num (.t 59) (.t 64)) 58 true,qk 66 58 (.t 65) qz,qm 67 66,qg 68 (.load 1 false (.t 9)) 67 false,qg 69 (.bin .eql .num (.t 68) (qi 1)) 67 false,qg 70 (.mv (.t 69)) 67 false,qg 71 (.load 1 false (.t 10)) 70 true,qg 72 (.load 1 false (.t 7)) 70 true,qg 73 (.len 0 (.t 72)) 70 true,qg 74 (.bin .neq .num (.t 71) (.t 73)) 70 true,qg 75 (.pick (.t 70) (.t 74) qz) 67 false,qk 76 67 qt (.t 75)]) (.cond (.t 76) (.seq (.region [qs 4 qz]) .ret) .skip))))) (.seq (.seq (.region [ql 77 9]) (.region [qo 9 (.alloc [(.int .i64 0)]),qs 9 (.t 77)])) (.region [ql 31 9,qn 32 .add (.t 31) (qi 1),qs 9 (.t 32)]))))
theorem Iz (a:AV) (cs:List AV) (h:a= .agg cs) (H:ab) (ho:aw cs=true) (hl:cs.length=13):(cbL bc).ic 12 [a] H=some (.ret (.fn 37 [.ptr H.length 0]),H++[.cells cs]):=by
 subst h;have:=cK (tab:=bc) (f:=12) (fi:=c12) (args:=[.agg cs]) (H:=H) (P:=fun o G=>o= .ret (.fn 37 [.ptr H.length 0])/\G=H++[.cells cs]) rfl rfl (by simp[c12]) (by decide) ?_
 . obtain⟨o,G,e1,rfl,rfl⟩:=this;exact e1
 unfold c12;simp(disch:=omega)only[wk,ae,↓reduceIte,reduceEqDiff,reduceEq,reduceAdd,reduceCtorEq,ho]
theorem Oh (a:AV) (H:ab):pcx (cbL bc) 12 [a] H=none:=br rfl (bH (fi:=c12) rfl rfl)
def iN:aD:=(.region [qo 4 (.alloc [(.int .i64 0),(.int .i64 0)]),qe (.store 2 (.t 4) (.t 7))])
def iy:aD:=(.block 1 (.seq (.seq (.region [qf 8 0 4,ql 9 8,ql 10 3,qn 11 .gtr (.t 9) (.t 10),qm 12 11,qg 13 (.load 1 false (.t 2)) 12 true,qg 14 (.load 1 false (.t 3)) 12 true,qg 15 (.fld 0 (.t 4)) 12 true,qg 16 (.load 1 false (.t 15)) 12 true,qg 17 (.load 1 false (.t 3)) 12 true,qg 18 (.bin .sub .num (.t 16) (.t 17)) 12 true,qg 19 (.build [(.int .i64 0),(.int .i64 0)] [(0,(1,(.t 14))),(1,(1,(.t 18)))]) 12 true,qg 20 (.ct (.t 13) [(.t 19)]) 12 true,qg 21 (.un .not (.t 20)) 12 true,qk 22 12 (.t 21) qz]) (.cond (.t 22) .ret .skip)) (.region [qf 23 0 4,ql 24 23,qf 25 1 4,ql 26 25,qn 27 .add (.t 24) (.t 26),qs 3 (.t 27)])))
theorem gw (p:Nat->Bool) (N:Int):∀(f k:Nat) (r:Rn),((k+f:Nat):Int)<=N->(r.m=0∨0<=r.a/\0<r.m/\r.a+r.m<=k)->∀x∈cR p r k f,0<=x.a/\0<x.m/\x.a+x.m<=N
 | 0,k,r,hN,hr,x,hx=>by
   rw[cR]at hx;split at hx
   . cases hx
   . rename_i h
     rcases hr with hr|hr
     . exact absurd hr h
     . rw[List.mem_singleton.1 hx];omega
 | f+1,k,r,hN,hr,x,hx=>by
   rw[cR]at hx;split at hx
   . split at hx
     . exact gw p N f (k+1) _ (by omega) (.inr (by simp only;omega)) x hx
     . rename_i h;exact gw p N f (k+1) _ (by omega) (.inr (by simp only;omega)) x hx
   . split at hx
     . exact gw p N f (k+1) _ (by omega) (.inl rfl) x hx
     . rename_i h
       rcases List.mem_cons.1 hx with e|hx
       . subst e
         rcases hr with hr|hr
         . exact absurd hr h
         . omega
       . exact gw p N f (k+1) _ (by omega) (.inl rfl) x hx
theorem GR (mo:Nat) (H:ab):(cbL bc).ic 49 [.ptr mo 0] H=some (.ret (.fn 80 [.ptr H.length 0]),H++[.cells [.ptr mo 0]]):=by
 have:=cK (tab:=bc) (f:=49) (fi:=c49) (args:=[.ptr mo 0]) (H:=H) (P:=fun o G=>o= .ret (.fn 80 [.ptr H.length 0])/\G=H++[.cells [.ptr mo 0]]) rfl rfl (by simp[c49]) (by decide) ?_
 . obtain⟨o,G,e1,rfl,rfl⟩:=this;exact e1
 unfold c49;simp(disch:=omega)only[wk,ae,↓reduceIte,reduceEqDiff,reduceEq,reduceAdd,reduceCtorEq]
structure GaS (b yid mo:Nat) (e:Int) (lo:aj) (G:ab):Prop where
 y:G[b]? =some (.cells [.yld yid])
 e:G[b+1]? =some (.cells [.int .i64 e])
 m:G[b+2]? =some (.cells [.ptr mo 0])
 d:G[b+3]? =some .cZ
 l:G[b+4]? =some lo
theorem GaS.of {b yid mo:Nat} {e:Int} {lo:aj} {G G':ab} (h:GaS b yid mo e lo G) (hi:∀i,i<b+5->G'[i]? =G[i]?):GaS b yid mo e lo G':=
 ⟨(hi _ (by omega)).trans h.y,(hi _ (by omega)).trans h.e,(hi _ (by omega)).trans h.m,(hi _ (by omega)).trans h.d,(hi _ (by omega)).trans h.l⟩
theorem DJ {many mo yid N b:Nat} {S T:List Rn} {J:List Rn->ab->Prop} {Dn:ab->Prop} {tm:List AV} {E:Env} (hN:N<=b) (hm:many<=4096)
   (hA:∀pre G G',J pre G->(∀i,i<N->G'[i]? =G[i]?)->J pre G') (hD:∀G G',Dn G->(∀i,i<N->G'[i]? =G[i]?)->Dn G')
   (bd:∀x∈S,0<=x.a/\0<x.m/\x.a+x.m<=many) (hY:vD yid N T J Dn) (ha:Ag 44 tm E) (E2:E 2= .ptr b 0) (E3:E 3= .ptr (b+1) 0):
   vD (b+4) (b+5) S (fun pre G=>∃gp e,(∀post,S=pre++post->T=gp++dE many e post)/\J gp G/\0<=e/\e<=many/\GaS b yid mo e (.loop 0 .normal tm [7] iN iy) G) (fun G=>Dn G/\G[b+3]? =some .cZ/\G[b+4]? =some (.loop 2 .ret tm [7] iN iy)):=by
 intro pre x post G hS ⟨gp,e,hT,jG,e0,e1,g⟩ hG;obtain⟨x1,x2,x3⟩:=bd x (by rw[hS];simp);have hT:=hT _ hS;rw[dE]at hT
 obtain⟨P,hP⟩:∃P:Bool->ab->Prop,P=fun c G'=>G.length<=G'.length/\(∀i,b+5<=i->i<G.length->G'[i]? =G[i]?)/\if c=true then(∃gp' e',(∀post',S=(pre++[x])++post'->T=gp'++dE many e' post')/\J gp' G'/\0<=e'/\e'<=many/\GaS b yid mo e' (.loop 0 .normal tm [7] iN iy) G')else(Dn G'/\G'[b+3]? =some .cZ/\G'[b+4]? =some (.loop 2 .ret tm [7] iN iy)):=⟨_,rfl⟩
 have key:=vJ (tab:=bc) (id:=b+4) (P:=P) (args:=[.agg (rnA x)]) (H:=G) (aT g.l) ha rfl (by decide) (by decide) (by decide) (by decide) (by decide) ?_
 . rw[hP]at key;exact key
 have ex:rnA x=[.int .i64 x.a,.int .i64 x.m]:=rfl
 have g0:∀L:List aj,(G++L)[G.length]? =L[0]? :=fun L=>by rw[List.getElem?_append_right (Nat.le_refl _),Nat.sub_self]
 have t0:∀(L:List aj) (o:aj),(G++L).set G.length o=G++L.set 0 o:=fun L o=>by rw[List.set_append_right _ _ (Nat.le_refl _),Nat.sub_self]
 have gk:∀i,i<G.length->∀L:List aj,(G++L)[i]? =G[i]? :=fun i hi L=>List.getElem?_append_left hi
 have gl:b+4<G.length:=(List.getElem?_eq_some_iff.1 g.l).1;unfold iN;rw[ex];simp(disch:=omega)only[wk,ae,↓reduceIte,reduceEqDiff,reduceEq,reduceAdd,reduceCtorEq,gK,iG,g0,t0];refine⟨rfl,rfl,_,_,_,_,_,aT (by rw[gk _ gl];exact g.l), ?_⟩;obtain⟨G1,hG1⟩:∃G1,G1=(G++[aj.cells [.int .i64 x.a,.int .i64 x.m]]).set (b+4) (.loop 1 .normal tm [7] iN iy):=⟨_,rfl⟩;rw[<-hG1]
 have l1:G1.length=G.length+1:=by rw[hG1];simp
 have k1:∀i,i<G.length->i≠b+4->G1[i]? =G[i]? :=fun i h1 h2=>by rw[hG1,List.getElem?_set_ne (Ne.symm h2),gk _ h1]
 have c1:G1[G.length]? =some (.cells [.int .i64 x.a,.int .i64 x.m]):=by rw[hG1,List.getElem?_set_ne (by omega),g0];rfl
 have lo1:G1[b+4]? =some (.loop 1 .normal tm [7] iN iy):=by rw[hG1,List.getElem?_set_self (by simp;omega)]
 have y1:=(k1 _ (by omega) (by omega)).trans g.y;have e2:=(k1 _ (by omega) (by omega)).trans g.e;have m1:=(k1 _ (by omega) (by omega)).trans g.m;have d1:=(k1 _ (by omega) (by omega)).trans g.d
 have j1:J gp G1:=hA _ _ _ jG fun i hi=>k1 i (by omega) (by omega)
 have w1:IntKind.i64.wrap (x.a+x.m)=x.a+x.m:=wrap_i64 (by omega) (by omega)
 have fin:∀(gp':List Rn) (G2:ab),G1.length<=G2.length->(∀i,N<=i->i<G1.length->G2[i]? =G1[i]?)->J gp' G2->T=gp'++dE many (x.a+x.m) post->P true ((G2.set (b+1) (.cells [.int .i64 (x.a+x.m)])).set (b+4) (.loop 0 .normal tm [7] iN iy)):=fun gp' G2 h1 h2 h3 h4=>by
   have kk:∀i,i≠b+1->i≠b+4->((G2.set (b+1) (.cells [.int .i64 (x.a+x.m)])).set (b+4) (aj.loop 0 .normal tm [7] iN iy))[i]? =G2[i]? :=fun i h5 h6=>by rw[List.getElem?_set_ne (Ne.symm h6),List.getElem?_set_ne (Ne.symm h5)]
   rw[hP];refine⟨by simp;omega,fun i h5 h6=> ?_, ?_⟩
   . rw[kk i (by omega) (by omega),h2 i (by omega) (by omega),k1 i h6 (by omega)]
   rw[if_pos rfl];refine⟨gp',x.a+x.m,fun post' hp=> ?_,hA _ _ _ h3 fun i hi=>kk i (by omega) (by omega),by omega,x3, ?_⟩
   . have:post'=post:=by
       rw[hS,List.append_assoc]at hp;have:=List.append_cancel_left hp;simpa using this.symm
     rw[this];exact h4
   . exact⟨(kk _ (by omega) (by omega)).trans ((h2 _ (by omega) (by omega)).trans y1),by rw[List.getElem?_set_ne (by omega),List.getElem?_set_self (by omega)],(kk _ (by omega) (by omega)).trans ((h2 _ (by omega) (by omega)).trans m1),(kk _ (by omega) (by omega)).trans ((h2 _ (by omega) (by omega)).trans d1),List.getElem?_set_self (by simp;omega)⟩
 unfold iy;by_cases hx:e<x.a
 . rw[if_pos hx]at hT;have w2:IntKind.i64.wrap (x.a-e)=x.a-e:=wrap_i64 (by omega) (by omega);obtain⟨c,G2,z1,z2,z3,z4⟩:=hY gp ⟨e,x.a-e⟩ _ G1 hT j1 (by omega);have z1:(cbL bc).yl yid [.agg [.int .i64 e,.int .i64 (x.a-e)]] G1=some (.ret (.bool c),G2):=z1;have c2:=(z3 G.length (by omega) (by omega)).trans c1;have lo2:=(z3 (b+4) (by omega) (by omega)).trans lo1;have e22:=(z3 (b+1) (by omega) (by omega)).trans e2
   cases c with
   | false=>
     rw[if_neg Bool.false_ne_true]at z4;simp(disch:=omega)only[wk,ae,↓reduceIte,reduceEqDiff,reduceEq,reduceAdd,reduceCtorEq,E2,E3,y1,e2,m1,c1,hx,w1,w2,z1,aB,bM];refine⟨rfl,1,.normal,tm,[7],iN,iy,aT lo2, ?_⟩;rw[hP];refine⟨by simp;omega,fun i h5 h6=> ?_, ?_⟩
     . rw[List.getElem?_set_ne (by omega),z3 i (by omega) (by omega),k1 i h6 (by omega)]
     rw[if_neg Bool.false_ne_true];exact⟨hD _ _ z4 fun i hi=>List.getElem?_set_ne (by omega),by rw[List.getElem?_set_ne (by omega)];exact(z3 _ (by omega) (by omega)).trans d1,List.getElem?_set_self (by omega)⟩
   | true=>
     rw[if_pos rfl]at z4;simp(disch:=omega)only[wk,ae,↓reduceIte,reduceEqDiff,reduceEq,reduceAdd,reduceCtorEq,E2,E3,y1,e2,m1,c1,hx,w1,w2,z1,c2,e22,aB,bM];refine⟨rfl,1,.normal,tm,[7],iN,iy,aT (by rw[List.getElem?_set_ne (by omega)];exact lo2), ?_⟩;exact fin (gp++[⟨e,x.a-e⟩]) G2 z2 z3 z4 (by rw[hT];simp)
 . rw[if_neg hx]at hT;simp(disch:=omega)only[wk,ae,↓reduceIte,reduceEqDiff,reduceEq,reduceAdd,reduceCtorEq,E2,E3,y1,e2,m1,c1,hx,w1,aB,bM];refine⟨rfl,1,.normal,tm,[7],iN,iy,aT (by rw[List.getElem?_set_ne (by omega)];exact lo1), ?_⟩;exact fin gp G1 (Nat.le_refl _) (fun _ _ _=>rfl) j1 hT
theorem HY {n:Nat} {many:Nat} {p:Nat->Bool} {mo id vb yid N:Nat} {H:ab} (J:List Rn->ab->Prop) (Dn:ab->Prop)
   (hN:N<=H.length) (hv:∀pre G,J pre G->G[vb]? =some (.cells [.ptr mo 0])/\BM G mo id n many p)
   (hA:∀pre G G',J pre G->(∀i,i<N->G'[i]? =G[i]?)->J pre G') (hD:∀G G',Dn G->(∀i,i<N->G'[i]? =G[i]?)->Dn G')
   (hY:vD yid N (dE many 0 (cR p ⟨0,0⟩ 0 many)) J Dn) (j0:J [] H):
   ∃G,(cbL bc).ic 112 [.yld yid,.ptr vb 0] H=some (.ret (.tup []),G)/\(J (dE many 0 (cR p ⟨0,0⟩ 0 many)) G∨Dn G):=by
 have:=cK (tab:=bc) (f:=112) (fi:=KN) (args:=[.yld yid,.ptr vb 0]) (H:=H) (P:=fun o G=>o= .ret (.tup [])/\(J (dE many 0 (cR p ⟨0,0⟩ 0 many)) G∨Dn G)) rfl rfl (by simp[KN]) (by decide) ?_
 . obtain⟨o,G,e1,rfl,e2⟩:=this;exact⟨G,e1,e2⟩
 obtain⟨v0,B0⟩:=hv _ _ j0;have hi:=B0.hi;have few:=B0.few;have bd:=gw p many many 0 ⟨0,0⟩ (by omega) (.inl rfl);obtain⟨S,hS⟩:∃S,S=cR p ⟨0,0⟩ 0 many:=⟨_,rfl⟩;rw[<-hS]at hY bd ⊢;obtain⟨T,hT⟩:∃T,T=dE many 0 S:=⟨_,rfl⟩;rw[<-hT]at hY ⊢
 have j1:J [] (H++[.cells [.yld yid],.cells [.int .i64 0]]):=hA _ _ _ j0 fun i hi=>List.getElem?_append_left (by omega)
 obtain⟨v1,B1⟩:=hv _ _ j1
 have pr:∀(v:Nat) (H:ab),pcx (cbL bc) 49 [.ptr v 0] H=none:=fun v H=>br rfl (bH (fi:=c49) rfl rfl)
 have l1:(cbL bc).cC 49=false:=rfl
 have g1:∀L:List aj,(H++L)[H.length+1]? =L[1]? :=fun L=>by rw[List.getElem?_append_right (by omega),show H.length+1-H.length=1 by omega]
 have t1:∀(L:List aj) (o:aj),(H++L).set (H.length+1) o=H++L.set 1 o:=fun L o=>by rw[List.set_append_right _ _ (by omega),show H.length+1-H.length=1 by omega]
 have fy:(AV.yld yid).flat=[.yld yid]:=rfl;have oy:aw [AV.yld yid]=true:=rfl;unfold KN;simp(disch:=omega)only[wk,ae,↓reduceIte,reduceEqDiff,reduceEq,reduceAdd,reduceCtorEq,fy,oy,v1,pr,aI l1,GR,g1,t1,List.append_assoc];obtain⟨H1,hH1⟩:∃H1,H1=H++[aj.cells [.yld yid],.cells [.int .i64 0],.cells [.ptr mo 0]]:=⟨_,rfl⟩;rw[<-hH1]
 have l3:H1.length=H.length+3:=by rw[hH1];simp
 refine iB («as» :=iN) (bd:=iy) (f:=80) (caps:=[.ptr (H.length+2) 0]) (by simp only[en,↓reduceIte,reduceEqDiff,pS]) (fun tm ha=> ?_);rw[l3];obtain⟨H0,hH0⟩:∃H0,H0=H1++[aj.cZ,.loop 0 .normal tm [7] iN iy]:=⟨_,rfl⟩;rw[<-hH0]
 have l0:H0.length=H.length+5:=by rw[hH0];simp[l3]
 have ap:∀i,i<H.length->H0[i]? =H[i]? :=fun i hi=>by rw[hH0,hH1,List.append_assoc,List.getElem?_append_left hi]
 have aq:∀i,H0[H.length+i]? =[aj.cells [.yld yid],.cells [.int .i64 0],.cells [.ptr mo 0],.cZ,.loop 0 .normal tm [7] iN iy][i]? :=fun i=>by rw[hH0,hH1,List.append_assoc,List.getElem?_append_right (by omega),Nat.add_sub_cancel_left];rfl
 have gs:GaS H.length yid mo 0 (.loop 0 .normal tm [7] iN iy) H0:=⟨aq 0,aq 1,aq 2,aq 3,aq 4⟩;have rd:=DJ (b:=H.length) (mo:=mo) (S:=S) (T:=T) hN (by omega) hA hD bd hY ha (by simp only[en,↓reduceIte,reduceEqDiff]) (by simp only[en,↓reduceIte,reduceEqDiff]);rw[hS]at rd
 obtain⟨H2,hic,hJD⟩:=CH (n:=n) (p:=p) (mo:=mo) (id:=id) (vb:=H.length+2) (H:=H0) _ _ (by omega) (fun pre G ⟨gp,e,_,h1,_,_,h2⟩=>⟨h2.m,(hv _ _ h1).2⟩)
   (fun pre G G' ⟨gp,e,h0,h1,h2,h3,h4⟩ hi=>⟨gp,e,h0,hA _ _ _ h1 fun i h=>hi i (by omega),h2,h3,h4.of hi⟩)
   (fun G G' ⟨h1,h2,h3⟩ hi=>⟨hD _ _ h1 fun i h=>hi i (by omega),(hi _ (by omega)).trans h2,(hi _ (by omega)).trans h3⟩) rd
   ⟨[],0,fun post hp=>by rw[<-hS]at hp;rw[hT,hp];rfl,hA _ _ _ j0 fun i hi=>ap i (by omega),by omega,by omega,gs⟩
 rcases hJD with⟨gp,e,h0,h1,h2,h3,h4⟩|⟨h1,h2,h3⟩
 . refine⟨_,H2,0,.normal,tm,[7],iN,iy,hic,aT h4.l,by decide,rfl, ?_⟩;have h0:=h0 [] (by simp);rw[dE]at h0;obtain⟨H3,hH3⟩:∃H3,H3=H2.set (H.length+4) (.loop 3 .normal tm [7] iN iy):=⟨_,rfl⟩;rw[<-hH3]
   have s0:∀i,i≠H.length+4->H3[i]? =H2[i]? :=fun i h=>by rw[hH3,List.getElem?_set_ne (Ne.symm h)]
   have j3:J gp H3:=hA _ _ _ h1 fun i hi=>s0 i (by omega)
   obtain⟨v3,B3⟩:=hv _ _ j3;have m3:=B3.m;have y3:=(s0 _ (by omega)).trans h4.y;have e3:=(s0 _ (by omega)).trans h4.e;have d3:=(s0 _ (by omega)).trans h4.d;have ll:=(List.getElem?_eq_some_iff.1 h4.l).1
   have l33:H3.length=H2.length:=by rw[hH3];simp
   by_cases hx:e<many
   . rw[if_pos hx]at h0;have w2:IntKind.i64.wrap ((many:Int)-e)=many-e:=wrap_i64 (by omega) (by omega);obtain⟨c,G2,z1,z2,z3,z4⟩:=hY gp ⟨e,many-e⟩ [] H3 h0 j3 (by omega);have z1:(cbL bc).yl yid [.agg [.int .i64 e,.int .i64 ((many:Int)-e)]] H3=some (.ret (.bool c),G2):=z1;have d4:=(z3 _ (by omega) (by omega)).trans d3;simp(disch:=omega)only[wk,ae,↓reduceIte,reduceEqDiff,reduceEq,reduceAdd,reduceCtorEq,v3,m3,y3,e3,hx,w2,z1];rw[oN d4];simp(disch:=omega)only[wk,ae,↓reduceIte,reduceEqDiff,reduceEq,reduceAdd,reduceCtorEq]
     cases c with
     |false=>rw[if_neg Bool.false_ne_true]at z4;exact .inr (hD _ _ z4 fun i hi=>List.getElem?_set_ne (by omega))
     |true=>rw[if_pos rfl]at z4;rw[h0];exact .inl (hA _ _ _ z4 fun i hi=>List.getElem?_set_ne (by omega))
   . rw[if_neg hx,List.append_nil]at h0;simp(disch:=omega)only[wk,ae,↓reduceIte,reduceEqDiff,reduceEq,reduceAdd,reduceCtorEq,v3,m3,y3,e3,hx];rw[oN d3];simp(disch:=omega)only[wk,ae,↓reduceIte,reduceEqDiff,reduceEq,reduceAdd,reduceCtorEq];rw[h0];exact .inl (hA _ _ _ j3 fun i hi=>List.getElem?_set_ne (by omega))
 . refine⟨_,H2,2,.ret,tm,[7],iN,iy,hic,aT h3,by decide,rfl, ?_⟩
   have h4:(H2.set (H.length+4) (aj.loop 3 .ret tm [7] iN iy))[H.length+3]? =some .cZ:=by rw[List.getElem?_set_ne (by omega)];exact h2
   simp(disch:=omega)only[wk,ae,↓reduceIte,reduceEqDiff,reduceEq,reduceAdd,reduceCtorEq];rw[gH h4];simp(disch:=omega)only[wk,ae,↓reduceIte,reduceEqDiff,reduceEq,reduceAdd,reduceCtorEq];exact .inr (hD _ _ h1 fun i hi=>by rw[List.getElem?_set_ne (by omega),List.getElem?_set_ne (by omega)])
def mT:aD:=(.region [qo 10 (.alloc [(.int .i64 0),(.int .i64 0)]),qe (.store 2 (.t 10) (.t 31))])
def mU:aD:=(.block 2 (.seq (.seq (.region [qf 32 0 10,ql 33 32,ql 34 5,qo 35 (.mm true (.t 33) (.t 34)),qm 11 35]) (.seq (.region [ql 36 4,qf 37 0 10,ql 38 37,qf 39 1 10,ql 40 39,qn 41 .add (.t 38) (.t 40),qm 42 11,qn 43 .sub (.t 41) (.t 42),qn 44 .leq (.t 36) (.t 43)]) (.cond (.t 44) (.seq (.region [qm 45 11,qs 6 (.t 45),qs 7 (qi 0)]) .ret) .skip))) (.seq (.region [ql 46 9,qo 47 (.un .not (.t 46)),qm 48 47,qg 49 (.load 1 false (.t 4)) 48 true,qg 50 (.fld 1 (.t 10)) 48 true,qg 51 (.load 1 false (.t 50)) 48 true,qg 52 (.bin .leq .num (.t 49) (.t 51)) 48 true,qk 53 48 (.t 52) qz]) (.cond (.t 53) (.region [qf 54 0 10,ql 55 54,qs 8 (.t 55),qs 9 qt]) .skip))))
def iU (T:List Rn) (mn:Int):Int×Int:=
 match T.find? (fun x=>decide (mn<=x.m))with
 |some x=>(x.a,0)
 |none=>(0,5)
theorem As {T:List Rn} {mn:Int} (h:∀x∈T,x.m<mn):iU T mn=(0,5):=by
 unfold iU;rw[List.find?_eq_none.2 fun x hx=>by have:=h x hx;simp;omega]
theorem vX {T pre post:List Rn} {x:Rn} {mn:Int} (hT:T=pre++x::post) (h:∀x∈pre,x.m<mn) (hx:mn<=x.m):iU T mn=(x.a,0):=by
 unfold iU;rw[hT,List.find?_append,List.find?_eq_none.2 fun x hx=>by have:=h x hx;simp;omega];simp[hx]
theorem ma (N:Int):∀(S:List Rn) (e:Int),0<=e->e<=N->(∀x∈S,0<=x.a/\0<x.m/\x.a+x.m<=N)->∀y∈dE N e S,0<=y.a/\0<y.m/\y.a+y.m<=N
 | [],e,h0,h1,_,y,hy=>by
   rw[dE]at hy;split at hy
   . rw[List.mem_singleton.1 hy];simp only;omega
   . cases hy
 | x::S,e,h0,h1,hS,y,hy=>by
   have hx:=hS x (List.mem_cons_self ..)
   have ih:=ma N S (x.a+x.m) (by omega) (by omega) fun z hz=>hS z (List.mem_cons_of_mem _ hz)
   rw[dE]at hy;split at hy
   . rcases List.mem_cons.1 hy with e|hy
     . rw[e];simp only;omega
     . exact ih y hy
   . exact ih y hy
theorem GQ (mo:Nat) (H:ab):(cbL bc).ic 77 [.ptr mo 0] H=some (.ret (.fn 112 [.ptr H.length 0]),H++[.cells [.ptr mo 0]]):=by
 have:=cK (tab:=bc) (f:=77) (fi:=c77) (args:=[.ptr mo 0]) (H:=H) (P:=fun o G=>o= .ret (.fn 112 [.ptr H.length 0])/\G=H++[.cells [.ptr mo 0]]) rfl rfl (by simp[c77]) (by decide) ?_
 . obtain⟨o,G,e1,rfl,rfl⟩:=this;exact e1
 unfold c77;simp(disch:=omega)only[wk,ae,↓reduceIte,reduceEqDiff,reduceEq,reduceAdd,reduceCtorEq]
theorem HJ {N b:Nat} {T:List Rn} {H0 H:ab} {mn many:Int} {tm:List AV} {E:Env} (h1:1<=mn) (h2:mn<=4096) (hm:many<=4096) (hb:b=H.length)
   (bd:∀x∈T,0<=x.a/\0<x.m/\x.a+x.m<=many) (ha:Ag 59 tm E) (E4:E 4= .ptr b 0) (E5:E 5= .ptr (b+1) 0) (E6:E 6= .ptr (b+2) 0) (E7:E 7= .ptr (b+3) 0) (E9:E 9= .ptr (b+5) 0)
   (g0:H0[b]? =some (.cells [.int .i64 mn])) (g1:H0[b+1]? =some (.cells [.int .i64 0])) (g2:H0[b+2]? =some (.cells [.int .i64 0])) (g3:H0[b+3]? =some (.cells [.int .i64 0])) (g5:H0[b+5]? =some (.cells [.bool false])) (g7:H0[b+7]? =some .cZ)
   (g8:H0[b+8]? =some (.loop 0 .normal tm [31] mT mU)) (ho:∀i,i<b->H0[i]? =H[i]?):
   vD (b+8) (b+9) T (fun pre G=>(∀x∈pre,x.m<mn)/\∀i,i<b+9->G[i]? =H0[i]?) (fun G=>∃x pre post,T=pre++x::post/\(∀y∈pre,y.m<mn)/\mn<=x.m/\(∀i,i<b->G[i]? =H[i]?)/\G[b+2]? =some (.cells [.int .i64 x.a])/\G[b+3]? =some (.cells [.int .i64 0])/\G[b+7]? =some .cZ/\G[b+8]? =some (.loop 2 .ret tm [31] mT mU)):=by
 intro pre x post G hS ⟨hp,hG⟩ hl;obtain⟨x1,x2,x3⟩:=bd x (by rw[hS];simp)
 obtain⟨P,hP⟩:∃P:Bool->ab->Prop,P=fun c G'=>G.length<=G'.length/\(∀i,b+9<=i->i<G.length->G'[i]? =G[i]?)/\if c=true then((∀y∈pre++[x],y.m<mn)/\∀i,i<b+9->G'[i]? =H0[i]?)else∃x pre post,T=pre++x::post/\(∀y∈pre,y.m<mn)/\mn<=x.m/\(∀i,i<b->G'[i]? =H[i]?)/\G'[b+2]? =some (.cells [.int .i64 x.a])/\G'[b+3]? =some (.cells [.int .i64 0])/\G'[b+7]? =some .cZ/\G'[b+8]? =some (.loop 2 .ret tm [31] mT mU):=⟨_,rfl⟩
 have key:=vJ (tab:=bc) (id:=b+8) (P:=P) (args:=[.agg (rnA x)]) (H:=G) (aT ((hG _ (by omega)).trans g8)) ha rfl (by decide) (by decide) (by decide) (by decide) (by decide) ?_
 . rw[hP]at key;exact key
 have ex:rnA x=[.int .i64 x.a,.int .i64 x.m]:=rfl
 have gg:∀L:List aj,(G++L)[G.length]? =L[0]? :=fun L=>by rw[List.getElem?_append_right (Nat.le_refl _),Nat.sub_self]
 have t0:∀(L:List aj) (o:aj),(G++L).set G.length o=G++L.set 0 o:=fun L o=>by rw[List.set_append_right _ _ (Nat.le_refl _),Nat.sub_self]
 have gk:∀i,i<G.length->∀L:List aj,(G++L)[i]? =G[i]? :=fun i hi L=>List.getElem?_append_left hi
 unfold mT;rw[ex];simp(disch:=omega)only[wk,ae,↓reduceIte,reduceEqDiff,reduceEq,reduceAdd,reduceCtorEq,gK,iG,gg,t0];refine⟨rfl,rfl,_,_,_,_,_,aT (by rw[gk _ (by omega)];exact(hG _ (by omega)).trans g8), ?_⟩;obtain⟨G1,hG1⟩:∃G1,G1=(G++[aj.cells [.int .i64 x.a,.int .i64 x.m]]).set (b+8) (.loop 1 .normal tm [31] mT mU):=⟨_,rfl⟩;rw[<-hG1]
 have l1:G1.length=G.length+1:=by rw[hG1];simp
 have k1:∀i,i<G.length->i≠b+8->G1[i]? =G[i]? :=fun i h1 h2=>by rw[hG1,List.getElem?_set_ne (Ne.symm h2),gk _ h1]
 have kk:∀i o,i<b+9->i≠b+8->H0[i]? =o->G1[i]? =o:=fun i o h1 h2 h3=>(k1 i (by omega) h2).trans ((hG i h1).trans h3)
 have c1:G1[G.length]? =some (.cells [.int .i64 x.a,.int .i64 x.m]):=by rw[hG1,List.getElem?_set_ne (by omega),gg];rfl
 have lo1:G1[b+8]? =some (.loop 1 .normal tm [31] mT mU):=by rw[hG1,List.getElem?_set_self (by simp;omega)]
 have m0:=kk _ _ (by omega) (by omega) g0;have m1:=kk _ _ (by omega) (by omega) g1;have m2:=kk _ _ (by omega) (by omega) g2;have m3:=kk _ _ (by omega) (by omega) g3;have m5:=kk _ _ (by omega) (by omega) g5;have m7:=kk _ _ (by omega) (by omega) g7
 have ge:∀i,i<b+8->G1[i]? =H0[i]? :=fun i hi=>kk i _ (by omega) (by omega) rfl
 have w1:IntKind.i64.wrap (x.a+x.m)=x.a+x.m:=wrap_i64 (by omega) (by omega)
 have w2:IntKind.i64.wrap (x.a+x.m-x.a)=x.m:=by rw[wrap_i64 (by omega) (by omega)];omega
 have n0:¬x.a<0:=by omega
 have s2:∀o:aj,(G1.set (b+2) o)[b+3]? =some (.cells [.int .i64 0]):=fun o=>by rw[List.getElem?_set_ne (by omega)];exact m3
 unfold mU;by_cases hx:mn<=x.m
 . simp(disch:=omega)only[wk,ae,↓reduceIte,reduceEqDiff,reduceEq,reduceAdd,reduceCtorEq,E4,E5,E6,E7,E9,m0,m1,m2,m3,m5,c1,w1,w2,n0,hx,s2];refine⟨rfl,1,.normal,tm,[31],mT,mU,aT (by rw[List.getElem?_set_ne (by omega),List.getElem?_set_ne (by omega)];exact lo1), ?_⟩;rw[hP];refine⟨by simp;omega,fun i h5 h6=> ?_, ?_⟩
   . rw[List.getElem?_set_ne (by omega),List.getElem?_set_ne (by omega),List.getElem?_set_ne (by omega),k1 i h6 (by omega)]
   rw[if_neg Bool.false_ne_true];refine⟨x,pre,post,hS,hp,hx,fun i hi=> ?_, ?_, ?_, ?_,List.getElem?_set_self (by simp;omega)⟩
   . rw[List.getElem?_set_ne (by omega),List.getElem?_set_ne (by omega),List.getElem?_set_ne (by omega),ge i (by omega)];exact ho i hi
   . rw[List.getElem?_set_ne (by omega),List.getElem?_set_ne (by omega),List.getElem?_set_self (by omega)]
   . rw[List.getElem?_set_ne (by omega),List.getElem?_set_self (by simp;omega)]
   . rw[List.getElem?_set_ne (by omega),List.getElem?_set_ne (by omega),List.getElem?_set_ne (by omega)];exact m7
 . simp(disch:=omega)only[wk,ae,↓reduceIte,reduceEqDiff,reduceEq,reduceAdd,reduceCtorEq,E4,E5,E6,E7,E9,m0,m1,m2,m3,m5,c1,w1,w2,n0,hx,aB,bM];refine⟨rfl,1,.normal,tm,[31],mT,mU,aT lo1, ?_⟩;rw[hP];refine⟨by simp;omega,fun i h5 h6=> ?_, ?_⟩
   . rw[List.getElem?_set_ne (by omega),k1 i h6 (by omega)]
   rw[if_pos rfl];refine⟨fun y hy=> ?_,fun i hi=> ?_⟩
   . rcases List.mem_append.1 hy with h|h
     . exact hp y h
     . rw[List.mem_singleton.1 h];omega
   . by_cases e:i=b+8
     . subst e;rw[List.getElem?_set_self (by omega),g8]
     . rw[List.getElem?_set_ne (by omega)];exact ge i (by omega)
theorem FQ {H:ab} {mo id n:Nat} {many:Nat} {p:Nat->Bool} (B:BM H mo id n many p) {mn:Int} (h1:1<=mn) (h2:mn<=4096):
   ∃G,(cbL bc).ic 42 [.ptr mo 0,.int .i64 mn,.int .i64 0] H=some (.ret (.tup [.int .i64 (iU (dE many 0 (cR p ⟨0,0⟩ 0 many)) mn).1,.int .i64 (iU (dE many 0 (cR p ⟨0,0⟩ 0 many)) mn).2]),G)/\∀i,i<H.length->G[i]? =H[i]? :=by
 obtain⟨T,hT⟩:∃T,T=dE many 0 (cR p ⟨0,0⟩ 0 many):=⟨_,rfl⟩;have hi:=B.hi;have few:=B.few;have lo:=B.lo
 have bd:∀x∈T,0<=x.a/\0<x.m/\x.a+x.m<=(many:Int):=by
   rw[hT];exact ma many _ 0 (by omega) (by omega) (gw p many many 0 ⟨0,0⟩ (by omega) (.inl rfl))
 have:=cK (tab:=bc) (f:=42) (fi:=c42) (args:=[.ptr mo 0,.int .i64 mn,.int .i64 0]) (H:=H) (P:=fun o G=>o= .ret (.tup [.int .i64 (iU T mn).1,.int .i64 (iU T mn).2])/\∀i,i<H.length->G[i]? =H[i]?) rfl rfl (by simp[c42]) (by decide) ?_
 . rw[<-hT];obtain⟨o,G,e1,rfl,e2⟩:=this;exact⟨G,e1,e2⟩
 have q1:∀(j:Nat) (L:List aj),(H++L)[H.length+j]? =L[j]? :=fun j L=>by rw[List.getElem?_append_right (by omega),Nat.add_sub_cancel_left]
 have q0:∀(L:List aj),(H++L)[H.length]? =L[0]? :=fun L=>q1 0 L
 have t1:∀(j:Nat) (L:List aj) (o:aj),(H++L).set (H.length+j) o=H++L.set j o:=fun j L o=>by rw[List.set_append_right _ _ (by omega),Nat.add_sub_cancel_left]
 have B1:∀L,BM (H++L) mo id n many p:=fun L=>B.app L
 have m1:∀L:List aj,(H++L)[mo]? =some (.cells [.msl 1 id 0 n,.int .i64 (many:Int)]):=fun L=>(B1 L).m
 have no:=fun L=>Fw (o9 (B1 L))
 have pn:∀(v:Nat) (H:ab),pcx (cbL bc) 75 [.ptr v 0] H=none:=fun v H=>br rfl (bH (fi:=c75) rfl rfl)
 have pg:∀(v:Nat) (H:ab),pcx (cbL bc) 77 [.ptr v 0] H=none:=fun v H=>br rfl (bH (fi:=c77) rfl rfl)
 have ll1:(cbL bc).cC 75=false:=rfl;have ll2:(cbL bc).cC 77=false:=rfl
 have n1:¬mn<1:=by omega
 have n2:¬(many:Int)<=0:=by omega
 unfold c42;simp(disch:=omega)only[wk,ae,↓reduceIte,reduceEqDiff,reduceEq,reduceAdd,reduceCtorEq,q0,q1,t1,m1,no,pn,aI ll1,n1,n2,pg,aI ll2,GQ,List.append_assoc,Int.reduceToNat,Int.reduceAdd,Int.reduceSub,Int.reduceMul,Int.reduceNeg,Nat.reduceSub,Nat.reduceDiv];obtain⟨H1,hH1⟩:∃H1,H1=H++[aj.cells [.int .i64 mn],.cells [.int .i64 0],.cells [.int .i64 0],.cells [.int .i64 0],.cells [.int .i64 0],.cells [.bool false],.cells [.ptr mo 0]]:=⟨_,rfl⟩;rw[<-hH1]
 have l3:H1.length=H.length+7:=by rw[hH1];simp
 refine iB («as» :=mT) (bd:=mU) (f:=112) (caps:=[.ptr (H.length+6) 0]) (by simp only[en,↓reduceIte,reduceEqDiff,pS]) (fun tm ha=> ?_);rw[l3];obtain⟨H0,hH0⟩:∃H0,H0=H1++[aj.cZ,.loop 0 .normal tm [31] mT mU]:=⟨_,rfl⟩;rw[<-hH0]
 have l0:H0.length=H.length+9:=by rw[hH0];simp[l3]
 have ap:∀i,i<H.length->H0[i]? =H[i]? :=fun i hi=>by rw[hH0,hH1,List.append_assoc,List.getElem?_append_left hi]
 have aq:∀i,H0[H.length+i]? =[aj.cells [.int .i64 mn],.cells [.int .i64 0],.cells [.int .i64 0],.cells [.int .i64 0],.cells [.int .i64 0],.cells [.bool false],.cells [.ptr mo 0],.cZ,.loop 0 .normal tm [31] mT mU][i]? :=fun i=>by rw[hH0,hH1,List.append_assoc,List.getElem?_append_right (by omega),Nat.add_sub_cancel_left];rfl
 have rd:=HJ (b:=H.length) (N:=H.length) (T:=T) (H0:=H0) (H:=H) (mn:=mn) (many:=many) h1 h2 (by omega) rfl bd ha (by simp only[en,↓reduceIte,reduceEqDiff]) (by simp only[en,↓reduceIte,reduceEqDiff]) (by simp only[en,↓reduceIte,reduceEqDiff]) (by simp only[en,↓reduceIte,reduceEqDiff]) (by simp only[en,↓reduceIte,reduceEqDiff]) (aq 0) (aq 1) (aq 2) (aq 3) (aq 5) (aq 7) (aq 8) ap;rw[hT]at rd
 have BH:BM H0 mo id n many p:=by rw[hH0,hH1,List.append_assoc];exact B.app _
 obtain⟨H2,hic,hJD⟩:=HY (n:=n) (p:=p) (mo:=mo) (id:=id) (vb:=H.length+6) (H:=H0) _ _ (by omega) (fun pre G ⟨_,h⟩=>⟨(h _ (by omega)).trans (aq 6),B.of fun i hi=>(h i (by omega)).trans (ap i hi)⟩)
   (fun pre G G' ⟨h1,h2⟩ hi=>⟨h1,fun i h=>(hi i (by omega)).trans (h2 i h)⟩)
   (fun G G' ⟨x,pre,post,q1,q2,q3,q4,q5,q6,q7,q8⟩ hi=>⟨x,pre,post,q1,q2,q3,fun i h=>(hi i (by omega)).trans (q4 i h),(hi _ (by omega)).trans q5,(hi _ (by omega)).trans q6,(hi _ (by omega)).trans q7,(hi _ (by omega)).trans q8⟩) rd
   ⟨fun x hx=>by(cases hx),fun _ _=>rfl⟩
 rw[<-hT]at hJD
 rcases hJD with⟨h3,h4⟩|⟨x,pre,post,q1,q2,q3,q4,q5,q6,q7,q8⟩
 . refine⟨_,H2,0,.normal,tm,[31],mT,mU,hic,aT ((h4 _ (by omega)).trans (aq 8)),by decide,rfl, ?_⟩;have e:=As h3;rw[e];have hle:H.length+8<H2.length:=(List.getElem?_eq_some_iff.1 ((h4 _ (by omega)).trans (aq 8))).1;obtain⟨H3,hH3⟩:∃H3,H3=H2.set (H.length+8) (.loop 3 .normal tm [31] mT mU):=⟨_,rfl⟩;rw[<-hH3]
   have s0:∀i o,i<H.length+8->H0[i]? =o->H3[i]? =o:=fun i o h hq=>by rw[hH3,List.getElem?_set_ne (by omega),h4 i (by omega),hq]
   have g9:=s0 _ _ (by omega) (aq 5);have g2:=s0 _ _ (by omega) (aq 2);have g3:=s0 _ _ (by omega) (aq 3);have g7:=s0 _ _ (by omega) (aq 7)
   have hle3:H.length+8<H3.length:=by rw[hH3];simpa using hle
   simp only[List.getElem?_cons_succ,List.getElem?_cons_zero]at g9 g2 g3 g7
   have u2:∀o:aj,(H3.set (H.length+2) o)[H.length+3]? =some (.cells [.int .i64 0]):=fun o=>by rw[List.getElem?_set_ne (by omega)];exact g3
   have u7:∀o o':aj,((H3.set (H.length+2) o).set (H.length+3) o')[H.length+7]? =some .cZ:=fun o o'=>by rw[List.getElem?_set_ne (by omega),List.getElem?_set_ne (by omega)];exact g7
   simp(disch:=omega)only[wk,ae,↓reduceIte,reduceEqDiff,reduceEq,reduceAdd,reduceCtorEq,g9,g2,g3,u2];rw[gH (u7 _ _)]
   have v2:∀o o' o2:aj,(((H3.set (H.length+2) o).set (H.length+3) o').set (H.length+7) o2)[H.length+2]? =some o:=fun o o' o2=>by rw[List.getElem?_set_ne (by omega),List.getElem?_set_ne (by omega),List.getElem?_set_self (by omega)]
   have v3:∀o o' o2:aj,(((H3.set (H.length+2) o).set (H.length+3) o').set (H.length+7) o2)[H.length+3]? =some o':=fun o o' o2=>by rw[List.getElem?_set_ne (by omega),List.getElem?_set_self (by simp;omega)]
   simp(disch:=omega)only[wk,ae,↓reduceIte,reduceEqDiff,reduceEq,reduceAdd,reduceCtorEq,v2,v3];intro i hi;rw[List.getElem?_set_ne (by omega),List.getElem?_set_ne (by omega),List.getElem?_set_ne (by omega)];exact s0 i _ (by omega) (ap i hi)
 . refine⟨_,H2,2,.ret,tm,[31],mT,mU,hic,aT q8,by decide,rfl, ?_⟩;have e:=vX q1 q2 q3;rw[e]
   have g7:∀o:aj,(H2.set (H.length+8) o)[H.length+7]? =some .cZ:=fun o=>by rw[List.getElem?_set_ne (by omega)];exact q7
   have v2:∀o o2:aj,((H2.set (H.length+8) o).set (H.length+7) o2)[H.length+2]? =some (.cells [.int .i64 x.a]):=fun o o2=>by rw[List.getElem?_set_ne (by omega),List.getElem?_set_ne (by omega)];exact q5
   have v3:∀o o2:aj,((H2.set (H.length+8) o).set (H.length+7) o2)[H.length+3]? =some (.cells [.int .i64 0]):=fun o o2=>by rw[List.getElem?_set_ne (by omega),List.getElem?_set_ne (by omega)];exact q6
   simp(disch:=omega)only[wk,ae,↓reduceIte,reduceEqDiff,reduceEq,reduceAdd,reduceCtorEq];rw[gH (g7 _)];simp(disch:=omega)only[wk,ae,↓reduceIte,reduceEqDiff,reduceEq,reduceAdd,reduceCtorEq,v2,v3];intro i hi;rw[List.getElem?_set_ne (by omega),List.getElem?_set_ne (by omega)];exact q4 i hi
theorem DK (v:Nat) (a b:AV) (H:ab):pcx (cbL bc) 42 [.ptr v 0,a,b] H=none:=br rfl (bH (fi:=c42) rfl rfl)
theorem Dw {G:ab} {mo id n:Nat} {many:Int} {p:Nat->Bool} (B:BM G mo id n many p):(cbL tab).ic 41 [.ptr mo 0] G=some (.ret (.int .i64 (many-(cW p (64*n):Nat))),G):=by
 have ln:=AD B;have n0:=o9 B;obtain⟨m,w,lo,hi,few⟩:=B;have:=cK (tab:=tab) (f:=41) (fi:=c41) (args:=[.ptr mo 0]) (H:=G) (P:=fun o G'=>o= .ret (.int .i64 (many-(cW p (64*n):Nat)))/\G'=G) rfl rfl (by simp[c41]) (by decide) ?_
 . obtain⟨o,G',e1,rfl,rfl⟩:=this;exact e1
 have l1:(cbL tab).cC 75=false:=rfl;have l2:(cbL tab).cC 74=false:=rfl;unfold c41;simp(disch:=omega)only[wk,ae,↓reduceIte,reduceEqDiff,reduceEq,reduceAdd,reduceCtorEq,m,Dz,N4,aI l1,aI l2,n0,ln]
 refine aR (fun(k:Nat) E df G'=>k<=n/\G'=G/\E 3= .int .i64 (many-(cW p (64*k):Nat))/\E 13= .msl 1 id 0 n/\E 14= .int .i64 (n:Int)/\E 15= .int .i64 (k:Int)/\df=[])
   (fun k=>n-k) 0 (by decide) (.inl rfl) ⟨Nat.zero_le _,rfl,by simp only[en,↓reduceIte,reduceEqDiff];simp[cW],rfl,rfl,rfl,rfl⟩ ?_
 intro k E df G' ih hP;obtain⟨hk,rfl,E3,E13,E14,E15,hdf⟩:=hP;subst hdf;by_cases hkn:k<n
 . have n1:(k:Int)<(n:Int):=by omega
   have g1:=BA p hkn
   have on:=fun H=>I0 (fun j=>p (64*k+j)) H
   have ca:=mJ p (64*k) 64;have c1:=mw p (64*k);have c2:=mw (fun j=>p (64*k+j)) 64
   have w1:IntKind.i64.wrap (many-(cW p (64*k):Nat)-(cW (fun j=>p (64*k+j)) 64:Nat))=many-(cW p (64*(k+1)):Nat):=by
     rw[wrap_i64 (by omega) (by omega),show 64*(k+1)=64*k+64 by omega,ca];omega
   simp(disch:=omega)only[wk,ae,↓reduceIte,reduceEqDiff,reduceEq,reduceAdd,reduceCtorEq,E3,E13,E14,E15,n1,w,Nat.zero_add,g1,on,w1];exact ih (k+1) _ _ _ (by omega) ⟨hkn,rfl,by simp only[en,↓reduceIte,reduceEqDiff],by simp only[en,↓reduceIte,reduceEqDiff,E13],by simp only[en,↓reduceIte,reduceEqDiff,E14],by simp only[en,↓reduceIte,reduceEqDiff],rfl⟩
 . have e:k=n:=by omega
   subst e
   have n1:¬(k:Int)<(k:Int):=by omega
   simp(disch:=omega)only[wk,ae,↓reduceIte,reduceEqDiff,reduceEq,reduceAdd,reduceCtorEq,E3,E13,E14,E15,n1]
theorem zC (v:Nat) (H:ab):pcx (cbL bc) 41 [.ptr v 0] H=none:=br rfl (bH (fi:=c41) rfl rfl)
theorem Ay {G:ab} {v:AV} {l:List Rn} (h:Own G 2 v l.length (ah rnA l)) (hne:∀s n c,v≠ .sl s n c .e):mZ (bO G 4 v)=dW 2 rnA l:=by
 rcases h with⟨h0,h1,h2⟩|⟨h0,g,rfl,hg⟩
 . have:l=[]:=List.length_eq_zero_iff.1 h1;subst this
   rcases h0 with rfl|rfl
   . rfl
   . exact absurd rfl (hne _ _ _)
 . have hu:(ah rnA l).map au=ah rnA l:=by
     clear hg h0 hne
     induction l with
     |nil=>rfl
     |cons x l ih=>rw[aK,List.map_append,ih];rfl
   have:l.isEmpty=false:=by cases l<;>simp at h0 ⊢
   unfold dW;rw[this];show AV.sl 2 l.length ((ah rnA l).map au) .ro=_
   rw[hu];rfl
theorem Ei {G:ab} {v:AV} {l:List Rn} (h:Own G 2 v l.length (ah rnA l)) (hne:∀s n c,v≠ .sl s n c .e):cT (some (.ret v,G))=some (.plain (dW 2 rnA l)):=by
 have e:kz G v=dW 2 rnA l:=by
   rw[<-Ay h hne]
   rcases h with⟨h0|h0,_,_⟩|⟨_,g,h0,_⟩<;>rw[h0]<;>rfl
 obtain⟨s,tk,e2,_,e3⟩:=gJ 2 rnA l;simp only[cT,e];rw[if_pos];rw[e2];simp only[AV.hf,bz jW,e3,Bool.and_self]
theorem Ct {G:ab} {v:AV} {l:List Rn} (h:Own G 2 v l.length (ah rnA l)) (hne:∀s n c,v≠ .sl s n c .e) (k:Int):cT (some (.ret (.tup [v,.int .i64 k]),G))=some (.plain (.tup [dW 2 rnA l,.int .i64 k])):=by
 have e:kz G (.tup [v,.int .i64 k])= .tup [dW 2 rnA l,.int .i64 k]:=by
   show AV.tup [mZ (bO G 4 v),_]=_
   rw[Ay h hne];rfl
 obtain⟨s,tk,e2,_,e3⟩:=gJ 2 rnA l;simp only[cT,e];rw[if_pos];rw[e2];simp[AV.hf,hfL,bz jW,e3]
def jN:Int->List Rn->List Rn
 |_,[]=>[]
 |mn,r::l=>if mn=0 then [] else⟨r.a,if mn<r.m then mn else r.m⟩::jN (mn-if mn<r.m then mn else r.m) l
theorem Jw {L:List Rn} {s:Nat} {tk:Tk} (hs:L≠[]->s=2) (hl:L.length<=1000) (htk:(aE (.sl s L.length (ah rnA L) tk)).hf=true) (bd:∀x∈L,0<x.m/\x.m<=100000) {mn:Int} (h0:0<=mn) (h1:mn<=100000) (H:ab):
   pcx (cbL tab) 43 [.int .i64 mn,.sl s L.length (ah rnA L) tk] H=some (.plain (dW 2 rnA (jN mn L))):=by
 have hh:=bz jW L
 obtain⟨t2,ht2,hth⟩:∃t2,aE (.sl s L.length (ah rnA L) tk)= .sl s L.length (ah rnA L) t2/\t2.hf=true:=by
   cases tk with
   |own g=>exact⟨.ro,rfl,rfl⟩
   |_=>exact⟨_,rfl,by simpa[AV.hf,aE,au,hh] using htk⟩
 refine aP rfl (cP (fi:=c43) rfl ?_ (by simp[c43]) (by decide) ?_)
 . simp only[bG,List.map_cons,List.map_nil,aC,ht2,c43];simp only[hfL,AV.hf,hh,hth,Bool.and_self]
 unfold c43;rw[List.map_cons,List.map_cons,List.map_nil,aC,ht2];simp(disch:=omega)only[wk,ae,↓reduceIte,reduceEqDiff,reduceEq,reduceAdd,reduceCtorEq]
 refine aR (fun(x:List Rn×List Rn×List Rn×Int) E df G=>L=x.1++x.2.1/\jN mn L=x.2.2.1++jN x.2.2.2 x.2.1/\0<=x.2.2.2/\x.2.2.2<=100000/\E 0= .int .i64 x.2.2.2/\Own G 2 (E 4) x.2.2.1.length (ah rnA x.2.2.1)/\(∀s n c,E 4≠ .sl s n c .e)/\x.2.2.1.length<=x.1.length/\E 7= .sl s L.length (ah rnA L) t2/\E 8= .int .i64 (L.length:Int)/\E 9= .int .i64 (x.1.length:Int)/\df=[])
   (fun x=>x.2.1.length) ([],L,[],mn) (by decide) (.inl rfl) ⟨rfl,rfl,h0,h1,rfl,.inl ⟨.inl rfl,rfl,rfl⟩,(fun s n c e=>by cases e),Nat.le_refl _,rfl,rfl,rfl,rfl⟩ ?_
 intro ⟨pre,suf,out,q⟩ E df G ih hP;obtain⟨a1,a2,a3,a4,E0,E4,E4e,lo,E7,E8,E9,hdf⟩:=hP;dsimp only at a1 a2 a3 a4 E0 E4 lo E9;subst hdf
 have fin:∀G':ab,Own G' 2 (E 4) out.length (ah rnA out)->cT (some (.ret (E 4),G'))=some (.plain (dW 2 rnA out)):=fun G' ho=>Ei ho E4e
 cases suf with
 | nil=>
   have n1:¬(pre.length:Int)<(L.length:Int):=by rw[a1];simp
   rw[jN,List.append_nil]at a2;simp(disch:=omega)only[wk,ae,↓reduceIte,reduceEqDiff,reduceEq,reduceAdd,reduceCtorEq,E0,E7,E8,E9,n1];rw[a2];exact fin _ E4
 | cons x r=>
   have la:L.length=pre.length+(r.length+1):=by rw[a1];simp
   have n1:(pre.length:Int)<(L.length:Int):=by omega
   obtain rfl:=hs (by rw[a1];simp);have d1:=pt pre x r;rw[<-a1]at d1;obtain⟨b1,b2⟩:=bd x (by rw[a1];simp)
   have g0:∀L:List aj,(G++L)[G.length]? =L[0]? :=fun L=>by rw[List.getElem?_append_right (Nat.le_refl _),Nat.sub_self]
   have t0:∀(L:List aj) (o:aj),(G++L).set G.length o=G++L.set 0 o:=fun L o=>by rw[List.set_append_right _ _ (Nat.le_refl _),Nat.sub_self]
   rw[jN]at a2;by_cases hq:q=0
   . subst hq;rw[if_pos rfl,List.append_nil]at a2;simp(disch:=omega)only[wk,ae,↓reduceIte,reduceEqDiff,reduceEq,reduceAdd,reduceCtorEq,E0,E7,E8,E9,n1,d1,g0,t0];rw[a2];exact fin _ (E4.kept (g:=none) (fun j o h _=>by rw[List.getElem?_append_left (List.getElem?_eq_some_iff.1 h).1];exact h) (.inl rfl))
   . rw[if_neg hq]at a2
     obtain⟨m,hm⟩:∃m,m=if q<x.m then q else x.m:=⟨_,rfl⟩
     have hm2:0<m/\m<=q/\m<=100000:=by
       rw[hm];split<;>omega
     rw[<-hm]at a2;have w1:IntKind.i64.wrap (q-m)=q-m:=wrap_i64 (by omega) (by omega);by_cases hx:q<x.m
     . rw[if_pos hx]at hm;rw[hm]at a2 w1;simp(disch:=omega)only[wk,ae,↓reduceIte,reduceEqDiff,reduceEq,reduceAdd,reduceCtorEq,E0,E7,E8,E9,n1,d1,g0,t0,hq,hx,w1];refine bJ (E4.kept (g:=none) (fun j o h _=>by rw[List.getElem?_append_left (List.getElem?_eq_some_iff.1 h).1];exact h) (.inl rfl)) (by decide) (by omega) (by omega) (by decide) rfl rfl (fun H2 q1 q2 q3=> ?_);simp(disch:=omega)only[wk,ae,↓reduceIte,reduceEqDiff,reduceEq,reduceAdd,reduceCtorEq,E0,E7,E8,E9];refine ih (pre++[x],r,out++[⟨x.a,q⟩],q-q) _ _ _ (by simp) ⟨by simp[a1],by rw[a2];simp,by simp only;omega,by simp only;omega,by simp only[en,↓reduceIte,reduceEqDiff], ?_,fun s n c e=> ?_,by simp;omega,by simp only[en,↓reduceIte,reduceEqDiff,E7],by simp only[en,↓reduceIte,reduceEqDiff,E8],by simp only[en,↓reduceIte,reduceEqDiff],rfl⟩
       . simp only[en,↓reduceIte,reduceEqDiff];rw[aO];rw[List.length_append]at q1;exact q1
       . revert e;simp only[en,↓reduceIte,reduceEqDiff];intro e;cases e
     . rw[if_neg hx]at hm;rw[hm]at a2 w1;simp(disch:=omega)only[wk,ae,↓reduceIte,reduceEqDiff,reduceEq,reduceAdd,reduceCtorEq,E0,E7,E8,E9,n1,d1,g0,t0,hq,hx,w1];refine bJ (E4.kept (g:=none) (fun j o h _=>by rw[List.getElem?_append_left (List.getElem?_eq_some_iff.1 h).1];exact h) (.inl rfl)) (by decide) (by omega) (by omega) (by decide) rfl rfl (fun H2 q1 q2 q3=> ?_);simp(disch:=omega)only[wk,ae,↓reduceIte,reduceEqDiff,reduceEq,reduceAdd,reduceCtorEq,E0,E7,E8,E9];refine ih (pre++[x],r,out++[⟨x.a,x.m⟩],q-x.m) _ _ _ (by simp) ⟨by simp[a1],by rw[a2];simp,by simp only;omega,by simp only;omega,by simp only[en,↓reduceIte,reduceEqDiff], ?_,fun s n c e=> ?_,by simp;omega,by simp only[en,↓reduceIte,reduceEqDiff,E7],by simp only[en,↓reduceIte,reduceEqDiff,E8],by simp only[en,↓reduceIte,reduceEqDiff],rfl⟩
       . simp only[en,↓reduceIte,reduceEqDiff];rw[aO];rw[List.length_append]at q1;exact q1
       . revert e;simp only[en,↓reduceIte,reduceEqDiff];intro e;cases e
def lV:aD:=(.region [qo 5 (.alloc [(.int .i64 0),(.int .i64 0)]),qe (.store 2 (.t 5) (.t 7))])
def mA:aD:=(.block 1 (.region [ql 8 2,qL 9 2 5,qo 10 (.aY 2 1 [(.int .i64 0),(.int .i64 0)] [(0,(2,(.t 9)))]),qo 11 (.append 2 16 (.t 8) (.t 10)),qs 2 (.t 11)]))
def F3 (C:List AV) (W:List Rn) (vb:Nat):Prop:=∀{id N:Nat} {H:ab} (J:List Rn->ab->Prop) (Dn:ab->Prop),N<=H.length->H[vb]? =some (.cells C)->(∀pre x post G,W=pre++x::post->J pre G->N<=G.length->∃b G',(cbL bc).yl id [.agg (rnA x)] G=some (.ret (.bool b),G')/\N<=G'.length/\if b=true then J (pre++[x]) G' else Dn G')->(∀L,J [] (H++L))->∃G,(cbL bc).ic 37 [.yld id,.ptr vb 0] H=some (.ret (.tup []),G)/\(J W G∨Dn G)
structure CoS (H:ab) (b:Nat) (l:List Rn) (lo:aj) (v:AV) (G:ab):Prop where
 fo:Own G 2 v l.length (ah rnA l)
 fe:∀s n c,v≠ .sl s n c .e
 fv:G[b]? =some (.cells [v])
 fd:G[b+1]? =some .cZ
 fl:G[b+2]? =some lo
 fh:∀i,i<b->G[i]? =H[i]?
 ft:∀g,jo v=some g->b+3<=g
theorem HP {H:ab} {b:Nat} {W:List Rn} {tm:List AV} {E:Env} (ha:Ag 13 tm E) (E2:E 2= .ptr b 0) {pre post:List Rn} {x:Rn} {G:ab} (hW:W.length<=1000) (hS:W=pre++x::post) (hJ:∃v,CoS H b pre (.loop 0 .normal tm [7] lV mA) v G) (hl:b+3<=G.length):
   ∃c G',(cbL bc).yl (b+2) [.agg (rnA x)] G=some (.ret (.bool c),G')/\b+3<=G'.length/\if c=true then(∃v,CoS H b (pre++[x]) (.loop 0 .normal tm [7] lV mA) v G')else False:=by
 obtain⟨v,S⟩:=hJ
 obtain⟨P,hP⟩:∃P:Bool->ab->Prop,P=fun c G'=>b+3<=G'.length/\if c=true then(∃v,CoS H b (pre++[x]) (.loop 0 .normal tm [7] lV mA) v G')else False:=⟨_,rfl⟩
 have key:=vJ (tab:=bc) (id:=b+2) (P:=P) (args:=[.agg (rnA x)]) (H:=G) (aT S.fl) ha rfl (by decide) (by decide) (by decide) (by decide) (by decide) ?_
 . rw[hP]at key;exact key
 have lW:W.length=pre.length+(post.length+1):=by rw[hS];simp
 have ex:rnA x=[.int .i64 x.a,.int .i64 x.m]:=rfl
 have g0:∀L:List aj,(G++L)[G.length]? =L[0]? :=fun L=>by rw[List.getElem?_append_right (Nat.le_refl _),Nat.sub_self]
 have t0:∀(L:List aj) (o:aj),(G++L).set G.length o=G++L.set 0 o:=fun L o=>by rw[List.set_append_right _ _ (Nat.le_refl _),Nat.sub_self]
 have gk:∀i,i<G.length->∀L:List aj,(G++L)[i]? =G[i]? :=fun i hi L=>List.getElem?_append_left hi
 unfold lV;rw[ex];simp(disch:=omega)only[wk,ae,↓reduceIte,reduceEqDiff,reduceEq,reduceAdd,reduceCtorEq,gK,iG,g0,t0];refine⟨rfl,rfl,_,_,_,_,_,aT (by rw[gk _ (by omega)];exact S.fl), ?_⟩;obtain⟨G1,hG1⟩:∃G1,G1=(G++[aj.cells [.int .i64 x.a,.int .i64 x.m]]).set (b+2) (.loop 1 .normal tm [7] lV mA):=⟨_,rfl⟩;rw[<-hG1]
 have l1:G1.length=G.length+1:=by rw[hG1];simp
 have k1:∀i,i<G.length->i≠b+2->G1[i]? =G[i]? :=fun i h1 h2=>by rw[hG1,List.getElem?_set_ne (Ne.symm h2),gk _ h1]
 have c1:G1[G.length]? =some (.cells [.int .i64 x.a,.int .i64 x.m]):=by rw[hG1,List.getElem?_set_ne (by omega),g0];rfl
 have lo1:G1[b+2]? =some (.loop 1 .normal tm [7] lV mA):=by rw[hG1,List.getElem?_set_self (by simp;omega)]
 have v1:=(k1 _ (by omega) (by omega)).trans S.fv;have d1:=(k1 _ (by omega) (by omega)).trans S.fd
 have o1:Own G1 2 v pre.length (ah rnA pre):=by
   rw[hG1];refine Own.set (o:= .loop 0 .normal tm [7] lV mA) (S.fo.kept (g:=none) (fun j o h _=>by rw[List.getElem?_append_left (List.getElem?_eq_some_iff.1 h).1];exact h) (.inl rfl)) ?_ (fun s e=>by cases e)
   rw[gk _ (by omega)];exact S.fl
 have fv:aw [v]=true/\v.flat=[v]:=by
   rcases o1 with⟨h|h,_,_⟩|⟨_,g,h,_⟩<;>rw[h]<;>exact⟨rfl,rfl⟩
 unfold mA;simp(disch:=omega)only[wk,ae,↓reduceIte,reduceEqDiff,reduceEq,reduceAdd,reduceCtorEq,E2,v1,fv.1,c1];refine bJ o1 (by decide) (by omega) (by omega) (by decide) rfl rfl (fun H2 q1 q2 q3=> ?_)
 have v2:=q2.cells o1 rfl v1 fun s e=>by cases e
 have d2:=q2.cells o1 rfl d1 fun s e=>by cases e
 have lo2:=q2.cells o1 rfl lo1 fun s e=>by cases e
 simp(disch:=omega)only[wk,ae,↓reduceIte,reduceEqDiff,reduceEq,reduceAdd,reduceCtorEq,E2,v2];refine⟨rfl,1,.normal,tm,[7],lV,mA,aT (by rw[List.getElem?_set_ne (by omega)];exact lo2), ?_⟩;rw[hP];refine⟨by simp;omega, ?_⟩;rw[if_pos rfl];refine⟨.sl 2 (pre.length+1) (ah rnA pre++[.int .i64 x.a,.int .i64 x.m]) (.own G1.length), ?_,fun s n c e=>by(cases e), ?_, ?_, ?_,fun i hi=> ?_,fun g hg=>by cases hg;omega⟩
 . rw[List.length_append,aO]
   exact(q1.set (q:= .cells [_]) v2 fun s e=>by cases e).set (o:= .loop 1 .normal tm [7] lV mA) (by rw[List.getElem?_set_ne (by omega)];exact lo2) fun s e=>by cases e
 . rw[List.getElem?_set_ne (by omega),List.getElem?_set_self (by omega)]
 . rw[List.getElem?_set_ne (by omega),List.getElem?_set_ne (by omega)];exact d2
 . rw[List.getElem?_set_self (by simp;omega)]
 . rw[List.getElem?_set_ne (by omega),List.getElem?_set_ne (by omega),<-S.fh i hi,<-k1 i (by omega) (by omega)]
   have hi1:i<G1.length:=by omega
   rw[List.getElem?_eq_getElem hi1]
   exact q2 i _ (List.getElem?_eq_getElem hi1) fun e=>by have:=S.ft i e;omega
theorem De {C:List AV} {W:List Rn} {vb:Nat} {H:ab} (hW:W.length<=1000) (prod:F3 C W vb) (hv:H[vb]? =some (.cells C)):
   ∃v G,(cbL bc).ic 78 [.sl 0 0 [] .z,.fn 37 [.ptr vb 0]] H=some (.ret v,G)/\Own G 2 v W.length (ah rnA W)/\(∀s n c,v≠ .sl s n c .e)/\∀i,i<H.length->G[i]? =H[i]? :=by
 have:=cK (tab:=bc) (f:=78) (fi:=c78) (args:=[.sl 0 0 [] .z,.fn 37 [.ptr vb 0]]) (H:=H) (P:=fun o G=>∃v,o= .ret v/\Own G 2 v W.length (ah rnA W)/\(∀s n c,v≠ .sl s n c .e)/\∀i,i<H.length->G[i]? =H[i]?) rfl rfl (by simp[c78]) (by decide) ?_
 . obtain⟨o,G,e1,v,rfl,e2⟩:=this;exact⟨v,G,e1,e2⟩
 unfold c78;simp(disch:=omega)only[wk,ae,↓reduceIte,reduceEqDiff,reduceEq,reduceAdd,reduceCtorEq];obtain⟨H1,hH1⟩:∃H1,H1=H++[aj.cells [.sl 0 0 [] .z]]:=⟨_,rfl⟩;rw[<-hH1]
 have l3:H1.length=H.length+1:=by rw[hH1];simp
 refine iB («as» :=lV) (bd:=mA) (f:=37) (caps:=[.ptr vb 0]) (by simp only[en,↓reduceIte,reduceEqDiff,pS]) (fun tm ha=> ?_);rw[l3];obtain⟨H0,hH0⟩:∃H0,H0=H1++[aj.cZ,.loop 0 .normal tm [7] lV mA]:=⟨_,rfl⟩;rw[<-hH0]
 have l0:H0.length=H.length+3:=by rw[hH0];simp[l3]
 have ap:∀i,i<H.length->H0[i]? =H[i]? :=fun i hi=>by rw[hH0,hH1,List.append_assoc,List.getElem?_append_left hi]
 have aq:∀i,H0[H.length+i]? =[aj.cells [.sl 0 0 [] .z],.cZ,.loop 0 .normal tm [7] lV mA][i]? :=fun i=>by rw[hH0,hH1,List.append_assoc,List.getElem?_append_right (by omega),Nat.add_sub_cancel_left];rfl
 have lv:=(List.getElem?_eq_some_iff.1 hv).1
 obtain⟨H2,hic,hJD⟩:=prod (id:=H.length+2) (N:=H.length+3) (H:=H0) (fun pre G=>∃v,CoS H H.length pre (.loop 0 .normal tm [7] lV mA) v G) (fun _=>False) (by omega) ((ap _ lv).trans hv) (fun pre x post G hS hJ hl=>HP ha (by simp only[en,↓reduceIte,reduceEqDiff]) hW hS hJ hl)
   (fun L=>by
     have ul:∀(i:Nat) (q:aj),H0[i]? =some q->(H0++L)[i]? =some q:=fun i q hq=>by
       rw[List.getElem?_append_left (List.getElem?_eq_some_iff.1 hq).1];exact hq
     exact⟨.sl 0 0 [] .z,.inl ⟨.inl rfl,rfl,rfl⟩,fun s n c e=>by(cases e),ul _ _ (aq 0),ul _ _ (aq 1),ul _ _ (aq 2),fun i hi=>by rw[List.getElem?_append_left (by omega)];exact ap i hi,fun g hg=>by cases hg⟩)
 obtain⟨v,S⟩:=hJD.resolve_right id;refine⟨_,H2,0,.normal,tm,[7],lV,mA,hic,aT S.fl,by decide,rfl, ?_⟩;have hl2:=(List.getElem?_eq_some_iff.1 S.fl).1
 have v3:∀o:aj,(H2.set (H.length+2) o)[H.length]? =some (.cells [v]):=fun o=>by rw[List.getElem?_set_ne (by omega)];exact S.fv
 have d3:∀o:aj,(H2.set (H.length+2) o)[H.length+1]? =some .cZ:=fun o=>by rw[List.getElem?_set_ne (by omega)];exact S.fd
 have fv:aw [v]=true/\v.flat=[v]:=by
   rcases S.fo with⟨h|h,_,_⟩|⟨_,g,h,_⟩<;>rw[h]<;>exact⟨rfl,rfl⟩
 simp(disch:=omega)only[wk,ae,↓reduceIte,reduceEqDiff,reduceEq,reduceAdd,reduceCtorEq,v3];rw[gH (d3 _)];simp(disch:=omega)only[wk,ae,↓reduceIte,reduceEqDiff,reduceEq,reduceAdd,reduceCtorEq];refine⟨v,rfl,(S.fo.set S.fl (fun s e=>by cases e)).set (d3 _) (fun s e=>by cases e),S.fe,fun i hi=> ?_⟩;rw[List.getElem?_set_ne (by omega),List.getElem?_set_ne (by omega)];exact S.fh i hi
theorem yU {C:List AV} {W:List Rn} {vb:Nat} {H:ab} (hW:W.length<=1000) (prod:F3 C W vb) (hv:H[vb]? =some (.cells C)):
   ∃v G,(cbL bc).ic 44 [.fn 37 [.ptr vb 0]] H=some (.ret v,G)/\Own G 2 v W.length (ah rnA W)/\(∀s n c,v≠ .sl s n c .e)/\∀i,i<H.length->G[i]? =H[i]? :=by
 obtain⟨v,G,a1,a2,a3,a4⟩:=De (H:=H) hW prod hv;refine⟨v,G, ?_,a2,a3,a4⟩;have:=cK (tab:=bc) (f:=44) (fi:=c44) (args:=[.fn 37 [.ptr vb 0]]) (H:=H) (P:=fun o G'=>o= .ret v/\G'=G) rfl rfl (by simp[c44]) (by decide) ?_
 . obtain⟨o,G',e1,rfl,rfl⟩:=this;exact e1
 have pa:∀(a:AV) (f:FuncId) (q:Nat) (H:ab),pcx (cbL bc) 78 [a,.fn f [.ptr q 0]] H=none:=fun a f q H=>br rfl (bH (fi:=c78) rfl (by
   show hfL [aE a,_]=false
   simp[hfL,AV.hf,aE,au]))
 have ll:(cbL bc).cC 78=false:=rfl;unfold c44;simp(disch:=omega)only[wk,ae,↓reduceIte,reduceEqDiff,reduceEq,reduceAdd,reduceCtorEq,pa,aI ll,a1]
theorem yz (p:Nat->Bool):∀n,(∀i,i<n->p i=true)->cW p n=n
 |0,_=>rfl
 |n+1,h=>by rw[cW,yz p n fun i hi=>h i (by omega),h n (by omega)];rfl
theorem sP (p:Nat->Bool):∀n,cW p (n+1)=(if p 0 then 1 else 0)+cW (fun i=>p (i+1)) n
 |0=>by simp[cW]
 | n+1=>by
   rw[cW,sP p n,cW,Nat.add_assoc]
theorem Be (q:Nat->Bool):∀(k a:Nat),(dq (fun b=> !q b.toNat) (a:Int) k).length+cW (fun i=>q (a+i)) k=k
 |0,_=>rfl
 | k+1,a=>by
   have ih:=Be q k (a+1);rw[sP,dq]
   have e:cW (fun i=>q (a+(i+1))) k=cW (fun i=>q (a+1+i)) k:=pQ k fun i _=>by rw[show a+(i+1)=a+1+i by omega]
   rw[show(a:Int)+1=((a+1:Nat):Int)by omega];rw[Nat.add_zero,Int.toNat_natCast,e]
   cases q a with
   | true=>
     simp only[Bool.not_true,Bool.false_eq_true,if_false,if_true];omega
   | false=>
     simp only[Bool.not_false,Bool.false_eq_true,if_false,if_true,List.length_cons];omega
theorem Gd {f:Frm} {bl:List Int} (hd:0<=dF f) (hb:dF f<=f.b) (h64:f.b<=64) (h:∀x∈bl,dF f<=x/\x<f.b):((mR f bl).length:Int)=f.b-(cW (pB f bl) 64:Nat):=by
 obtain⟨d,hd'⟩:=Int.eq_ofNat_of_zero_le hd;obtain⟨k,hk⟩:∃k,k=(f.b-dF f).toNat:=⟨_,rfl⟩;obtain⟨r,hr⟩:∃r,64=d+k+r:=⟨64-d-k,by omega⟩;have c1:=Be (pB f bl) k d;have c2:=mJ (pB f bl) d k;have c3:=mJ (pB f bl) (d+k) r
 have c4:=yz (pB f bl) d fun i hi=>by unfold pB;rw[decide_eq_true (by omega)];rfl
 have c5:=pZ (fun i=>pB f bl (d+k+i)) r fun i hi=>by
   unfold pB
   rw[decide_eq_false (by omega),decide_eq_false fun hm=>by have:=h _ hm;omega];rfl
 unfold mR;rw[<-hk,hd',hr,c3,c2];omega
theorem A3 {f:Frm} {bl:List Int} {m:Nat} (hm:f.b=(m:Nat)) (hd:0<=dF f) (hb:dF f<=f.b) (hs:bl.Pairwise (· < ·)) (h:∀x∈bl,dF f<=x/\x<f.b):dE (m:Int) 0 (cR (pB f bl) ⟨0,0⟩ 0 m)=cL (dF f) (bl++[f.b]):=by
 obtain⟨d,hd'⟩:=Int.eq_ofNat_of_zero_le hd;obtain⟨k,hk⟩:∃k,m=d+k:=⟨m-d,by omega⟩;rw[hd',hm,hk];refine JA (pB f bl) d k bl hs (fun x hx=>by have:=h x hx;omega) (fun i hi=> ?_) (fun i h1 h2=> ?_)
 . unfold pB;rw[decide_eq_true (by omega)];rfl
 . unfold pB;rw[decide_eq_false (by omega)];rfl
def cG (f:Frm) (bl:List Int) (mn:Int):List Rn×Int:=
 if mn<0∨2048<mn then([],2)else if mn=0 then([],0)else if((mR f bl).length:Int)<mn then([],221)
 else if(iU (cL (dF f) (bl++[f.b])) mn).2=0 then([⟨(iU (cL (dF f) (bl++[f.b])) mn).1,mn⟩],0)else(jN mn (cL (dF f) (bl++[f.b])),0)
theorem nn {G:ab} (l:List Rn) (k:Int):cT (some (.ret (.tup [dW 2 rnA l,.int .i64 k]),G))=some (.plain (.tup [dW 2 rnA l,.int .i64 k])):=by
 have hu:(ah rnA l).map au=ah rnA l:=by
   induction l with
   |nil=>rfl
   |cons x l ih=>rw[aK,List.map_append,ih];rfl
 have e:kz G (.tup [dW 2 rnA l,.int .i64 k])= .tup [dW 2 rnA l,.int .i64 k]:=by
   show AV.tup [mZ (bO G 4 (dW 2 rnA l)),_]=_
   have e2:mZ (bO G 4 (dW 2 rnA l))=dW 2 rnA l:=by
     unfold dW;split
     . show AV.sl 0 l.length ((ah rnA l).map au) .z=_
       rw[hu]
     . show AV.sl 2 l.length ((ah rnA l).map au) .ro=_
       rw[hu]
   rw[e2];rfl
 obtain⟨s,tk,e2,_,e3⟩:=gJ 2 rnA l;simp only[cT,e];rw[if_pos];rw[e2];simp[AV.hf,hfL,bz jW,e3]
theorem O0.shape {G:ab} {v:AV} {l:List Rn} (h:Own G 2 v l.length (ah rnA l)):∃s tk,v= .sl s l.length (ah rnA l) tk/\(l≠[]->s=2)/\(aE v).hf=true:=by
 rcases h with⟨h1,h2,h3⟩|⟨h0,g,rfl,hg⟩
 . have:l=[]:=List.length_eq_zero_iff.1 h2;subst this
   rcases h1 with rfl|rfl
   . exact⟨_,_,rfl,fun h=>absurd rfl h,rfl⟩
   . exact⟨_,_,rfl,fun _=>rfl,rfl⟩
 . refine⟨_,_,rfl,fun _=>rfl, ?_⟩;show(AV.sl 2 l.length (ah rnA l) .ro).hf=true
   simp[AV.hf,bz jW,Tk.hf]
theorem Eg {f:Frm} {rt:Tv} {ns bl rl:List Int} {bv rv:AV} (I:Img f rt ns bl rl bv rv) (hz:NzR bl bv) (mn:Int) (H:ab):
   pcx (cbL bc) 13 [.agg (bK f (mkT rt ns) bv rv),.int .i64 mn] H=some (.plain (.tup [dW 2 rnA (if okI f bl rl then cG f bl mn else([],2)).1,.int .i64 (if okI f bl rl then cG f bl mn else([],2)).2])):=by
 have so:=fun H=>zI I H
 have hon:bG c13 [.agg (bK f (mkT rt ns) bv rv),.int .i64 mn]=true:=by
   simp only[bG,List.map_cons,List.map_nil,I.aE,aC,c13]
   have h1:(AV.agg (bK f (mkT rt ns) bv rv)).hf=true:=by
     have:=I.hf;simpa[hfL] using this
   show((AV.agg (bK f (mkT rt ns) bv rv)).hf&&((AV.int .i64 mn).hf&&true))=true
   rw[h1];rfl
 have o1:=I.b.one;have o2:=I.r.one;have li:=I.aE;have hf:=I.fo;unfold okF at hf;have b64:=I.b64
 have hd:0<=dF f:=by unfold dF;omega
 have hdb:dF f<=f.b:=by unfold dF;omega
 refine aP rfl (cP (fi:=c13) rfl hon (by simp[c13]) (by decide) ?_);unfold c13;rw[List.map_cons,List.map_cons,List.map_nil,li,aC]
 cases ok:okI f bl rl with
 | false=>
   rw[ok]at so;simp only[Bool.false_eq_true,if_false]at so ⊢;clear hon li I;generalize mkT rt ns=T at*;unfold bK z13 at*;simp(disch:=omega)only[wk,ae,↓reduceIte,reduceEqDiff,reduceEq,reduceAdd,reduceCtorEq,so,o1,o2,aB,bM];rfl
 | true=>
   rw[ok]at so;simp only[if_true]at so ⊢;by_cases c0:mn<0
   . have e:cG f bl mn=([],2):=by unfold cG;rw[if_pos (.inl c0)]
     rw[e];clear hon li I;generalize mkT rt ns=T at*;unfold bK at*;simp(disch:=omega)only[wk,ae,↓reduceIte,reduceEqDiff,reduceEq,reduceAdd,reduceCtorEq,so,o1,o2,c0,aB,bM];rfl
   by_cases c1:2048<mn
   . have e:cG f bl mn=([],2):=by unfold cG;rw[if_pos (.inr c1)]
     rw[e];clear hon li I;generalize mkT rt ns=T at*;unfold bK at*;simp(disch:=omega)only[wk,ae,↓reduceIte,reduceEqDiff,reduceEq,reduceAdd,reduceCtorEq,so,o1,o2,c0,c1,aB,bM];rfl
   obtain⟨C,hC⟩:∃C:List aj,C=[.cells (bK f (mkT rt ns) bv rv),.cells (bK f (mkT rt ns) bv rv)]:=⟨_,rfl⟩;obtain⟨mo,id,G,b1,b2,b3,b4,b5⟩:=Kx I ok C;have b1:=Fw b1
   have cC0:C[0]? =some (.cells (bK f (mkT rt ns) bv rv)):=by rw[hC];rfl
   have cC1:C[1]? =some (.cells (bK f (mkT rt ns) bv rv)):=by rw[hC];rfl
   have rm:=jK ((Bool.and_eq_true _ _).mp (show(gn (9+f.i/4+f.r/4+1) f.b none bl&&gn 1 (f.r+1) none rl)=true from ok)).1
   have hr:∀x∈bl,dF f<=x/\x<f.b:=fun x hx=>by have:=rm.1 x hx;unfold dF;omega
   have lf:=Fw (Dw b2);have fc:=Gd hd hdb b64 hr;rw[show 64*1=64 from rfl,<-fc]at lf;obtain⟨m,hm⟩:=Int.eq_ofNat_of_zero_le (show 0<=f.b by omega);have gp:=A3 hm hd hdb rm.2 hr
   have pb:∀(v:AV) (H:ab),pcx (cbL bc) 40 [v] H=none:=fun v H=>br rfl (bH (fi:=c40) rfl rfl)
   have l1:(cbL bc).cC 40=false:=rfl;have l2:(cbL bc).cC 41=false:=rfl;have l3:(cbL bc).cC 42=false:=rfl
   have d0:G[0]? =some (.cells (bK f (mkT rt ns) bv rv)):=by rw[b5 0 (by rw[hC];simp),hC];rfl
   generalize hFL:((mR f bl).length:Int)=left at*;by_cases c2:mn=0
   . have e:cG f bl mn=([],0):=by unfold cG;rw[if_neg (by omega),if_pos c2]
     rw[e];clear hon li I fc hFL;generalize mkT rt ns=T at*;have im:bK f T bv rv=[.int .i64 f.b,.int .i64 f.i,.int .i64 f.r,.int .i64 f.t,.int .u64 5,.int .u64 6,.int .i64 9,.int .i64 (9+f.i/4),.int .i64 (9+f.i/4+f.r/4),.int .i64 (dF f),.sl 7 T.length (ah tvC T) .ro,bv,rv]:=rfl;rw[im]at so b1 hC cC0 cC1 ⊢;simp(disch:=omega)only[wk,ae,↓reduceIte,reduceEqDiff,reduceEq,reduceAdd,reduceCtorEq,so,o1,o2,c0,c1,<-hC,cC0,cC1,pb,aI l1,b1,c2,aB,bM];rfl
   by_cases c3:left<mn
   . have e:cG f bl mn=([],221):=by unfold cG;rw[if_neg (by omega),if_neg c2,hFL,if_pos c3]
     rw[e];clear hon li I fc hFL;generalize mkT rt ns=T at*;have im:bK f T bv rv=[.int .i64 f.b,.int .i64 f.i,.int .i64 f.r,.int .i64 f.t,.int .u64 5,.int .u64 6,.int .i64 9,.int .i64 (9+f.i/4),.int .i64 (9+f.i/4+f.r/4),.int .i64 (dF f),.sl 7 T.length (ah tvC T) .ro,bv,rv]:=rfl;rw[im]at so b1 hC cC0 cC1 ⊢;simp(disch:=omega)only[wk,ae,↓reduceIte,reduceEqDiff,reduceEq,reduceAdd,reduceCtorEq,so,o1,o2,c0,c1,<-hC,cC0,cC1,pb,aI l1,b1,c2,zC,aI l2,lf,c3,aB,bM];rfl
   rw[hm]at b2;obtain⟨G2,f1,f2⟩:=FQ b2 (mn:=mn) (by omega) (by omega);rw[gp]at f1;by_cases c4:(iU (cL (dF f) (bl++[f.b])) mn).2=0
   . have e:cG f bl mn=([⟨(iU (cL (dF f) (bl++[f.b])) mn).1,mn⟩],0):=by unfold cG;rw[if_neg (by omega),if_neg c2,hFL,if_neg c3,if_pos c4]
     rw[e]
     have pr:=fun G=>nn (G:=G) [⟨(iU (cL (dF f) (bl++[f.b])) mn).1,mn⟩] 0
     generalize (iU (cL (dF f) (bl++[f.b])) mn).1=A at*;generalize (iU (cL (dF f) (bl++[f.b])) mn).2=B at*;subst c4;clear hon li I fc hFL;generalize mkT rt ns=T at*;have im:bK f T bv rv=[.int .i64 f.b,.int .i64 f.i,.int .i64 f.r,.int .i64 f.t,.int .u64 5,.int .u64 6,.int .i64 9,.int .i64 (9+f.i/4),.int .i64 (9+f.i/4+f.r/4),.int .i64 (dF f),.sl 7 T.length (ah tvC T) .ro,bv,rv]:=rfl;rw[im]at so b1 hC cC0 cC1 ⊢;simp(disch:=omega)only[wk,ae,↓reduceIte,reduceEqDiff,reduceEq,reduceAdd,reduceCtorEq,so,o1,o2,c0,c1,<-hC,cC0,cC1,pb,aI l1,b1,c2,zC,aI l2,lf,c3,DK,aI l3,f1,aB,bM];exact pr _
   . have e:cG f bl mn=(jN mn (cL (dF f) (bl++[f.b])),0):=by unfold cG;rw[if_neg (by omega),if_neg c2,hFL,if_neg c3,if_neg c4]
     rw[e]
     have bd:∀x∈cL (dF f) (bl++[f.b]),0<=x.a/\0<x.m/\x.a+x.m<=(m:Int):=by
       rw[<-gp];exact ma m _ 0 (by omega) (by omega) (gw (pB f bl) m m 0 ⟨0,0⟩ (by omega) (.inl rfl))
     have gl:(cL (dF f) (bl++[f.b])).length<=1000:=by
       have:∀(l:List Int) (e:Int),(cL e l).length<=l.length:=by
         intro l
         induction l with
         |nil=>intro e;exact Nat.le_refl _
         | cons b r ih=>
           intro e;have:=ih (b+1);rw[cL]
           split<;>simp<;>omega
       have:=this (bl++[f.b]) (dF f);have:=I.lb
       have h2:(bl++[f.b]).length=bl.length+1:=by simp
       omega
     have wm:xQ f bl rl=cL (dF f) (bl++[f.b]):=by unfold xQ;rw[ok];rfl
     have prod:F3 (bK f (mkT rt ns) bv rv) (cL (dF f) (bl++[f.b])) G2.length:=by
       intro id N H J Dn h1 h2 h3 h4;have:=zY (vb:=G2.length) (id:=id) (N:=N) (H:=H) I hz J Dn h1 h2 (by rw[wm];exact h3) h4;rw[wm]at this;exact this
     obtain⟨v,G3,s1,s2,s3,s4⟩:=yU (H:=G2++[.cells (bK f (mkT rt ns) bv rv)]) gl prod (by rw[List.getElem?_append_right (Nat.le_refl _),Nat.sub_self];rfl);obtain⟨s,tk,rfl,hs,htk⟩:=O0.shape s2
     have cu:=fun H=>toR (Jw hs gl htk (fun x hx=>by have:=bd x hx;omega) (mn:=mn) (by omega) (by omega) H)
     have pr:=fun G=>nn (G:=G) (jN mn (cL (dF f) (bl++[f.b]))) 0
     have d2:G2[0]? =some (.cells (bK f (mkT rt ns) bv rv)):=by rw[f2 0 (List.getElem?_eq_some_iff.1 d0).1];exact d0
     have im:bK f (mkT rt ns) bv rv=[.int .i64 f.b,.int .i64 f.i,.int .i64 f.r,.int .i64 f.t,.int .u64 5,.int .u64 6,.int .i64 9,.int .i64 (9+f.i/4),.int .i64 (9+f.i/4+f.r/4),.int .i64 (dF f),.sl 7 (mkT rt ns).length (ah tvC (mkT rt ns)) .ro,bv,rv]:=rfl
     have ri:=fun H=>Iz (.agg (bK f (mkT rt ns) bv rv)) _ rfl H (by rw[im];simp only[aw,vg,zl,o1,o2,Bool.and_self]) rfl
     have pc:∀(f:FuncId) (q:Nat) (H:ab),pcx (cbL bc) 44 [.fn f [.ptr q 0]] H=none:=fun f q H=>br rfl (bH (fi:=c44) rfl rfl)
     have l4:(cbL bc).cC 44=false:=rfl;have l5:(cbL bc).cC 12=false:=rfl;obtain⟨S,hS⟩:∃S,S=dW 2 rnA (jN mn (cL (dF f) (bl++[f.b]))):=⟨_,rfl⟩;rw[<-hS]at cu pr ⊢;generalize cL (dF f) (bl++[f.b])=W at*;generalize (iU W mn).1=A at*;generalize (iU W mn).2=B at*;clear hon li I fc hFL;rw[im]at so b1 hC cC0 cC1 d0 d2 ri s1 ⊢;generalize mkT rt ns=T at*;simp(disch:=omega)only[wk,ae,↓reduceIte,reduceEqDiff,reduceEq,reduceAdd,reduceCtorEq,so,o1,o2,c0,c1,<-hC,cC0,cC1,pb,aI l1,b1,c2,zC,aI l2,lf,c3,DK,aI l3,f1,c4,d2,Oh,aI l5,ri,pc,aI l4,s1,cu,aB,bM];exact pr _
theorem xx {l:List Rn} {s s2:Nat} {tk tk2:Tk} (hs:l≠[]->s=2) (hs2:l≠[]->s2=2) (hl:l.length<=100000) (H:ab):pcx (cbL tab) 16 [.sl s l.length (ah rnA l) tk,.sl s2 l.length (ah rnA l) tk2] H=some (.plain (.bool true)):=by
 obtain⟨u1,e1,f1⟩:=jb s l.length (ah rnA l) tk;obtain⟨u2,e2,f2⟩:=jb s2 l.length (ah rnA l) tk2;have hh:=bz jW l;refine aP rfl (ba (fi:=c16) rfl ?_ (by simp[c16]) (by decide) ?_)
 . simp only[bG,List.map_cons,List.map_nil,e1,e2,c16,hfL,AV.hf,f1,f2,hh,Bool.and_self]
 unfold c16;rw[List.map_cons,List.map_cons,List.map_nil,e1,e2];simp(disch:=omega)only[wk,ae,↓reduceIte,reduceEqDiff,reduceEq,reduceAdd,reduceCtorEq]
 refine aR (fun(y:List Rn×List Rn) E df H=>l=y.1++y.2/\E 0= .sl s l.length (ah rnA l) u1/\E 1= .sl s2 l.length (ah rnA l) u2/\E 5= .int .i64 ((y.1.length:Nat):Int)/\df=[])
   (fun y=>y.2.length) ([],l) (by decide) (.inl rfl) ⟨rfl,rfl,rfl,rfl,rfl⟩ ?_
 intro ⟨pre,suf⟩ E df H ih hP;obtain⟨a1,E0,E1,E5,hdf⟩:=hP;dsimp only at a1 E5;subst hdf
 have la:l.length=pre.length+suf.length:=by rw[a1,List.length_append]
 cases suf with
 | nil=>
   have n1:¬(pre.length:Int)<(l.length:Int):=by rw[la];simp
   simp(disch:=omega)only[wk,ae,↓reduceIte,reduceEqDiff,reduceEq,reduceAdd,reduceCtorEq,E0,E1,E5,n1,aH,aL,aE,au,AV.hf,hfL]
 | cons y r=>
   rw[List.length_cons]at la
   have n1:(pre.length:Int)<(l.length:Int):=by omega
   obtain rfl:=hs (by rw[a1];simp);obtain rfl:=hs2 (by rw[a1];simp);have d1:=pt pre y r;rw[<-a1]at d1;simp(disch:=omega)only[wk,ae,↓reduceIte,reduceEqDiff,reduceEq,reduceAdd,reduceCtorEq,E0,E1,E5,n1,d1,NU];exact ih (pre++[y],r) _ _ _ (by simp) ⟨by simp[a1],by simp only[en,↓reduceIte,reduceEqDiff,E0],by simp only[en,↓reduceIte,reduceEqDiff,E1],by simp only[en,↓reduceIte,reduceEqDiff],rfl⟩
theorem rA:∀(l:List Int) (e:Int),(cL e l).length<=l.length
 |[],e=>Nat.le_refl _
 | b::r,e=>by
   have:=rA r (b+1);rw[cL]
   split<;>simp<;>omega
theorem FB {f:Frm} {rt:Tv} {ns bl rl:List Int} {bv rv:AV} (I:Img f rt ns bl rl bv rv) (ok:okI f bl rl=true) (mn:Int) (H:ab):
   pcx (cbL tab) 15 [.agg (bK f (mkT rt ns) bv rv),.int .i64 mn] H=some (.plain (.tup [dW 2 rnA (cG f bl mn).1,.int .i64 (cG f bl mn).2])):=by
 have rf:=fun H=>yK I H
 obtain⟨w,w1,rr⟩:=Fc I
 have hon:bG c15 [.agg (bK f (mkT rt ns) bv rv),.int .i64 mn]=true:=by
   simp only[bG,List.map_cons,List.map_nil,I.aE,aC,c15]
   have h1:(AV.agg (bK f (mkT rt ns) bv rv)).hf=true:=by
     have:=I.hf;simpa[hfL] using this
   show((AV.agg (bK f (mkT rt ns) bv rv)).hf&&((AV.int .i64 mn).hf&&true))=true
   rw[h1];rfl
 have o1:=I.b.one;have o2:=I.r.one;have li:=I.aE;have hf:=I.fo;unfold okF at hf;have b64:=I.b64
 have hd:0<=dF f:=by unfold dF;omega
 have hdb:dF f<=f.b:=by unfold dF;omega
 have rm:=jK ((Bool.and_eq_true _ _).mp (show(gn (9+f.i/4+f.r/4+1) f.b none bl&&gn 1 (f.r+1) none rl)=true from ok)).1
 have hr:∀x∈bl,dF f<=x/\x<f.b:=fun x hx=>by have:=rm.1 x hx;unfold dF;omega
 obtain⟨m,hm⟩:=Int.eq_ofNat_of_zero_le (show 0<=f.b by omega);have gp:=A3 hm hd hdb rm.2 hr
 have bd:∀x∈cL (dF f) (bl++[f.b]),0<=x.a/\0<x.m/\x.a+x.m<=(m:Int):=by
   rw[<-gp];exact ma m _ 0 (by omega) (by omega) (gw (pB f bl) m m 0 ⟨0,0⟩ (by omega) (.inl rfl))
 have e0:=tv bl [] (dF f) (f.b-dF f).toNat rm.2 (fun x hx=>by have:=hr x hx;omega) (fun x hx=>by cases hx);rw[show dF f+((f.b-dF f).toNat:Nat)=f.b by omega,List.nil_append]at e0
 have w1:Iu (cL (dF f) (bl++[f.b])) w:=by rw[<-e0];exact w1
 have gl:(cL (dF f) (bl++[f.b])).length<=1000:=by
   have:=rA (bl++[f.b]) (dF f);have:=I.lb
   have h2:(bl++[f.b]).length=bl.length+1:=by simp
   omega
 rw[<-Gt bl hd]at rf
 have fl:(mR f bl).length<=1000:=by have:=mz (fun b=> !pB f bl b.toNat) (f.b-dF f).toNat (dF f);unfold mR;omega
 refine aP rfl (cP (fi:=c15) rfl hon (by simp[c15]) (by decide) ?_);unfold c15;rw[List.map_cons,List.map_cons,List.map_nil,li,aC];by_cases c0:mn<0
 . have e:cG f bl mn=([],2):=by unfold cG;rw[if_pos (.inl c0)]
   rw[e];clear hon li I;generalize mkT rt ns=T at*;unfold bK at*;simp(disch:=omega)only[wk,ae,↓reduceIte,reduceEqDiff,reduceEq,reduceAdd,reduceCtorEq,o1,o2,c0,aB,bM];rfl
 by_cases c1:2048<mn
 . have e:cG f bl mn=([],2):=by unfold cG;rw[if_pos (.inr c1)]
   rw[e];clear hon li I;generalize mkT rt ns=T at*;unfold bK at*;simp(disch:=omega)only[wk,ae,↓reduceIte,reduceEqDiff,reduceEq,reduceAdd,reduceCtorEq,o1,o2,c0,c1,aB,bM];rfl
 by_cases c2:mn=0
 . have e:cG f bl mn=([],0):=by unfold cG;rw[if_neg (by omega),if_pos c2]
   rw[e];clear hon li I;generalize mkT rt ns=T at*;unfold bK at*;simp(disch:=omega)only[wk,ae,↓reduceIte,reduceEqDiff,reduceEq,reduceAdd,reduceCtorEq,o1,o2,c0,c1,c2,aB,bM];rfl
 have pk:cG f bl mn=if((mR f bl).length:Int)<mn then([],221)else if(iU (cL (dF f) (bl++[f.b])) mn).2=0 then([⟨(iU (cL (dF f) (bl++[f.b])) mn).1,mn⟩],0)else(jN mn (cL (dF f) (bl++[f.b])),0):=by unfold cG;rw[if_neg (by omega),if_neg c2]
 rw[pk];generalize mR f bl=FL at*;generalize cL (dF f) (bl++[f.b])=W at*;clear hon li I pk gp e0;generalize mkT rt ns=T at*;have im:bK f T bv rv=[.int .i64 f.b,.int .i64 f.i,.int .i64 f.r,.int .i64 f.t,.int .u64 5,.int .u64 6,.int .i64 9,.int .i64 (9+f.i/4),.int .i64 (9+f.i/4+f.r/4),.int .i64 (dF f),.sl 7 T.length (ah tvC T) .ro,bv,rv]:=rfl;rw[im]at rf rr ⊢;simp(disch:=omega)only[wk,ae,↓reduceIte,reduceEqDiff,reduceEq,reduceAdd,reduceCtorEq,o1,o2,c0,c1,c2,rf,aB,bM];refine Ib (fun s0 tk0 H' h1 h2 h3 h4 h5=> ?_);have h0:=h4 0 _ rfl;by_cases c3:(FL.length:Int)<mn
 . rw[if_pos c3];simp(disch:=omega)only[wk,ae,↓reduceIte,reduceEqDiff,reduceEq,reduceAdd,reduceCtorEq,c3];rfl
 rw[if_neg c3];obtain⟨s,tk,rfl,hs,htk⟩:=w1;simp(disch:=omega)only[wk,ae,↓reduceIte,reduceEqDiff,reduceEq,reduceAdd,reduceCtorEq,c3,h0,rr]
 refine aR (fun(x:List Rn×List Rn) E df G=>W=x.1++x.2/\(∀y∈x.1,y.m<mn)/\E 1= .int .i64 mn/\E 6= .sl s W.length (ah rnA W) tk/\E 7= .int .i64 (x.1.length:Int)/\df=[])
   (fun x=>x.2.length) ([],W) (by decide) (.inl rfl) ⟨rfl,fun y hy=>by(cases hy),rfl,rfl,rfl,rfl⟩ ?_
 intro ⟨pre,suf⟩ E df G ih hP;obtain⟨a1,a2,E1,E6,E7,hdf⟩:=hP;dsimp only at a1 a2 E7;subst hdf
 cases suf with
 | cons x r=>
   have la:W.length=pre.length+(r.length+1):=by rw[a1];simp
   have n1:(pre.length:Int)<(W.length:Int):=by omega
   obtain rfl:=hs (by rw[a1];simp);have d1:=pt pre x r;rw[<-a1]at d1;by_cases hx:mn<=x.m
   . rw[vX a1 a2 hx];simp only[if_true]
     have pr:=fun G=>nn (G:=G) [⟨x.a,mn⟩] 0
     simp(disch:=omega)only[wk,ae,↓reduceIte,reduceEqDiff,reduceEq,reduceAdd,reduceCtorEq,E1,E6,E7,n1,d1,hx];exact pr _
   . simp(disch:=omega)only[wk,ae,↓reduceIte,reduceEqDiff,reduceEq,reduceAdd,reduceCtorEq,E1,E6,E7,n1,d1,hx]
     exact ih (pre++[x],r) _ _ _ (by simp) ⟨by simp[a1],fun y hy=>(by
       rcases List.mem_append.1 hy with h|h
       . exact a2 y h
       . rw[List.mem_singleton.1 h];omega),by simp only[en,↓reduceIte,reduceEqDiff,E1],by simp only[en,↓reduceIte,reduceEqDiff,E6],by simp only[en,↓reduceIte,reduceEqDiff],rfl⟩
 | nil=>
   have ep:pre=W:=by rw[a1];simp
   have n1:¬(pre.length:Int)<(W.length:Int):=by rw[ep];omega
   rw[As (by rw[<-ep];exact a2)]
   have c5:¬(5:Int)=0:=by decide
   simp only[c5,if_false];clear a1 a2 ep;simp(disch:=omega)only[wk,ae,↓reduceIte,reduceEqDiff,reduceEq,reduceAdd,reduceCtorEq,E1,E6,E7,n1]
   refine aR (fun(x:List Rn×List Rn×List Rn×Int) E df G=>W=x.1++x.2.1/\jN mn W=x.2.2.1++jN x.2.2.2 x.2.1/\0<=x.2.2.2/\x.2.2.2<=2048/\E 1= .int .i64 x.2.2.2/\Own G 2 (E 8) x.2.2.1.length (ah rnA x.2.2.1)/\(∀s n c,E 8≠ .sl s n c .e)/\x.2.2.1.length<=x.1.length/\E 6= .sl s W.length (ah rnA W) tk/\E 9= .int .i64 (x.1.length:Int)/\df=[])
     (fun x=>x.2.1.length) ([],W,[],mn) (by decide) (.inl rfl) ⟨rfl,rfl,by simp only;omega,by simp only;omega,by simp only[en,↓reduceIte,reduceEqDiff,E1],.inl ⟨.inl rfl,rfl,rfl⟩,(fun s n c e=>by cases e),Nat.le_refl _,by simp only[en,↓reduceIte,reduceEqDiff,E6],rfl,rfl⟩ ?_
   clear E1 E6 E7 n1;intro ⟨pre,suf,out,q⟩ E df G ih hP;obtain⟨a1,a2,a3,a4,E1,E8,E8e,lo,E6,E9,hdf⟩:=hP;dsimp only at a1 a2 a3 a4 E1 E8 lo E9;subst hdf
   have fin:∀{G':ab},Own G' 2 (E 8) out.length (ah rnA out)->cT (some (.ret (.tup [E 8,.int .i64 0]),G'))=some (.plain (.tup [dW 2 rnA out,.int .i64 0])):=fun ho=>Ct ho E8e 0
   cases suf with
   | nil=>
     have n1:¬(pre.length:Int)<(W.length:Int):=by rw[a1];simp
     rw[jN,List.append_nil]at a2;simp(disch:=omega)only[wk,ae,↓reduceIte,reduceEqDiff,reduceEq,reduceAdd,reduceCtorEq,E1,E6,E9,n1,aB,bM];rw[a2];exact fin E8
   | cons x r=>
     have la:W.length=pre.length+(r.length+1):=by rw[a1];simp
     have n1:(pre.length:Int)<(W.length:Int):=by omega
     obtain rfl:=hs (by rw[a1];simp);have d1:=pt pre x r;rw[<-a1]at d1;obtain⟨b0,b1,b2⟩:=bd x (by rw[a1];simp);rw[jN]at a2;by_cases hq:q=0
     . subst hq;rw[if_pos rfl,List.append_nil]at a2
       have n2:¬(0:Int)<0:=by decide
       simp(disch:=omega)only[wk,ae,↓reduceIte,reduceEqDiff,reduceEq,reduceAdd,reduceCtorEq,E1,E6,E9,n1,n2,aB,bM];rw[a2];exact fin E8
     . rw[if_neg hq]at a2
       have n2:0<q:=by omega
       by_cases hx:q<x.m
       . rw[if_pos hx]at a2
         have hx2:¬x.m<q:=by omega
         have w1:IntKind.i64.wrap (q-q)=q-q:=wrap_i64 (by omega) (by omega);simp(disch:=omega)only[wk,ae,↓reduceIte,reduceEqDiff,reduceEq,reduceAdd,reduceCtorEq,E1,E6,E9,n1,n2,d1,hx,hx2,w1,aB,bM];refine bJ E8 (by decide) (by omega) (by omega) (by decide) rfl rfl (fun H2 q1 q2 q3=> ?_);simp(disch:=omega)only[wk,ae,↓reduceIte,reduceEqDiff,reduceEq,reduceAdd,reduceCtorEq,E1,E6,E9,w1];refine ih (pre++[x],r,out++[⟨x.a,q⟩],q-q) _ _ _ (by simp) ⟨by simp[a1],by rw[a2];simp,by simp only;omega,by simp only;omega,by simp only[en,↓reduceIte,reduceEqDiff], ?_,fun s n c e=> ?_,by simp;omega,by simp only[en,↓reduceIte,reduceEqDiff,E6],by simp only[en,↓reduceIte,reduceEqDiff],rfl⟩
         . simp only[en,↓reduceIte,reduceEqDiff];rw[aO];exact q1
         . revert e;simp only[en,↓reduceIte,reduceEqDiff];intro e;cases e
       . rw[if_neg hx]at a2;have w1:IntKind.i64.wrap (q-x.m)=q-x.m:=wrap_i64 (by omega) (by omega);by_cases hx2:x.m<q
         . simp(disch:=omega)only[wk,ae,↓reduceIte,reduceEqDiff,reduceEq,reduceAdd,reduceCtorEq,E1,E6,E9,n1,n2,d1,hx,hx2,w1,aB,bM];refine bJ E8 (by decide) (by omega) (by omega) (by decide) rfl rfl (fun H2 q1 q2 q3=> ?_);simp(disch:=omega)only[wk,ae,↓reduceIte,reduceEqDiff,reduceEq,reduceAdd,reduceCtorEq,E1,E6,E9,w1];refine ih (pre++[x],r,out++[⟨x.a,x.m⟩],q-x.m) _ _ _ (by simp) ⟨by simp[a1],by rw[a2];simp,by simp only;omega,by simp only;omega,by simp only[en,↓reduceIte,reduceEqDiff], ?_,fun s n c e=> ?_,by simp;omega,by simp only[en,↓reduceIte,reduceEqDiff,E6],by simp only[en,↓reduceIte,reduceEqDiff],rfl⟩
           . simp only[en,↓reduceIte,reduceEqDiff];rw[aO];exact q1
           . revert e;simp only[en,↓reduceIte,reduceEqDiff];intro e;cases e
         . obtain rfl:q=x.m:=by omega
           simp(disch:=omega)only[wk,ae,↓reduceIte,reduceEqDiff,reduceEq,reduceAdd,reduceCtorEq,E1,E6,E9,n1,n2,d1,hx,hx2,w1,aB,bM];refine bJ E8 (by decide) (by omega) (by omega) (by decide) rfl rfl (fun H2 q1 q2 q3=> ?_);simp(disch:=omega)only[wk,ae,↓reduceIte,reduceEqDiff,reduceEq,reduceAdd,reduceCtorEq,E1,E6,E9,w1];refine ih (pre++[x],r,out++[⟨x.a,x.m⟩],x.m-x.m) _ _ _ (by simp) ⟨by simp[a1],by rw[a2];simp,by simp only;omega,by simp only;omega,by simp only[en,↓reduceIte,reduceEqDiff], ?_,fun s n c e=> ?_,by simp;omega,by simp only[en,↓reduceIte,reduceEqDiff,E6],by simp only[en,↓reduceIte,reduceEqDiff],rfl⟩
           . simp only[en,↓reduceIte,reduceEqDiff];rw[aO];exact q1
           . revert e;simp only[en,↓reduceIte,reduceEqDiff];intro e;cases e
theorem rO {f:Frm} {bl rl fl:List Int} {bv rv fv:AV} (hb:dU bl bv) (hr:dU rl rv) (hfl:dU fl fv) (hz:NzR bl bv) (many:Int):(cbL bc).pc 4 [kY f bv rv fv,.int .i64 many]=some (.plain (.bool true)):=by
 have lu:aE (kY f bv rv fv)=kY f bv rv fv:=by
   show AV.agg [_,_,_,_,au bv,au rv,au fv]=_
   rw[hb.un,hr.un,hfl.un];rfl
 obtain⟨r,m1,m2,m3⟩:=Js hb hr hfl (f:=f)
 have mp:=fun H=>aP (H:=H) (show(cbL bc).cC 8=false from rfl) (OY m1)
 have ob:=hb.one;have orr:=hr.one;have of:=hfl.one;refine ba (fi:=c4) rfl ?_ (by simp[c4]) (by decide) ?_
 . simp only[bG,List.map_cons,List.map_nil,lu,aC,c4];simp only[kY,hfL,AV.hf,hb.hf,hr.hf,hfl.hf,Bool.and_self]
 unfold c4;rw[List.map_cons,List.map_cons,List.map_nil,lu,aC];by_cases hu:okU f bl rl fl
 case neg=>
   rw[m2 hu]at mp;clear m2 m3;unfold kY z13 at*;simp(disch:=omega)only[wk,ae,↓reduceIte,reduceEqDiff,reduceEq,reduceAdd,reduceCtorEq,mp,ob,orr,of,nG,aB,aH,aL,aE,au,AV.hf,hfL]
 obtain⟨rt,ns,h1,h2,h3⟩:=m3 hu;have I:=Ou hb hr hu h1 h2;rw[h3]at mp
 have rc:=fun H=>toR (Ca I.fo h1 h2 hb hr I.lb I.lr H)
 have sp:=fun H=>Eg I hz many H
 have im:bK f (mkT rt ns) bv rv=[.int .i64 f.b,.int .i64 f.i,.int .i64 f.r,.int .i64 f.t,.int .u64 5,.int .u64 6,.int .i64 9,.int .i64 (9+f.i/4),.int .i64 (9+f.i/4+f.r/4),.int .i64 (dF f),.sl 7 (mkT rt ns).length (ah tvC (mkT rt ns)) .ro,bv,rv]:=rfl
 cases ok:okI f bl rl with
 | false=>
   rw[ok]at rc sp;simp only[Bool.false_eq_true,if_false]at rc sp;have sp:∀H,pcx (cbL bc) 13 [.agg (bK f (mkT rt ns) bv rv),.int .i64 many] H=some (.plain (.tup [.sl 0 0 [] .z,.int .i64 2])):=sp;rw[im]at mp rc sp;clear m2 m3 I h1 h2 h3;generalize mkT rt ns=T at*;unfold kY at*;simp(disch:=omega)only[wk,ae,↓reduceIte,reduceEqDiff,reduceEq,reduceAdd,reduceCtorEq,mp,ob,orr,of,rc,sp,Bk,nG,aB,bM,aH,aL,aE,au,AV.hf,hfL]
 | true=>
   have rp:=fun H=>toR (FB I ok many H)
   rw[ok]at rc sp;simp only[if_true]at rc sp
   have pl:(cG f bl many).1.length<=100000:=by
     have gl:=rA (bl++[f.b]) (dF f)
     have cl:∀(L:List Rn) (q:Int),(jN q L).length<=L.length:=by
       intro L
       induction L with
       |nil=>intro q;exact Nat.le_refl _
       | cons x r ih=>
         intro q;rw[jN];split
         . simp
         . have:=ih (q-if q<x.m then q else x.m);simp;omega
     have:=cl (cL (dF f) (bl++[f.b])) many;have:=I.lb
     have h2:(bl++[f.b]).length=bl.length+1:=by simp
     unfold cG
     repeat' split
     all_goals simp
     all_goals omega
   obtain⟨s,tk,es,hs,htk⟩:=gJ 2 rnA (cG f bl many).1
   have sr:=fun H=>toR (xx (l:=(cG f bl many).1) (s:=s) (s2:=s) (tk:=tk) (tk2:=tk) hs hs pl H)
   rw[es]at rp sp;rw[im]at mp rc sp rp;have fh:=bz jW (cG f bl many).1;clear m2 m3 I h1 h2 h3 pl;generalize (cG f bl many).1=L at*;generalize (cG f bl many).2=e at*;generalize mkT rt ns=T at*;unfold kY at*;simp(disch:=omega)only[wk,ae,↓reduceIte,reduceEqDiff,reduceEq,reduceAdd,reduceCtorEq,mp,ob,orr,of,rc,sp,rp,sr,Bk,nG,aB,bM,aH,aL,aE,au,AV.hf,hfL]
theorem wW {x:List AV} {v:AV} (o:OkL [.int .i64,.int .i64,.int .i64,.int .i64,.slice [.int .i64],.slice [.int .i64],.slice [.int .i64]] x) (o1:OkS (.int .i64) v):(cbL bc).pc 4 [.agg x,v]=some (.plain (.bool true)):=by
 obtain⟨f,bl,rl,fl,bv,rv,fv,e,hb,hr,hf,hz⟩:=I8 o;obtain⟨n,rfl⟩:=tR o1;rw[e];exact rO hb hr hf hz n
end Go.Proofs.YtephfpdnhdpmkaaGreatDoor
