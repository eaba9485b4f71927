/- TEXTS OF THE WALKS, put together: SU2 SU3 SU4 SU5 SU6 SU7 SK0 SKE SK1 LFr SQA SQ0 SPA PM1 PB1 SQ1 SQ2 SQ3 LU SQ4 SQ5 PB2 SQ6 SQ7 PB3 PM2 PM3 PM4 PM5 LMa LMb. No condition but those stated. -/
import Derived.Test.YtephfpdnhdpmkaaGreatDoorQ2
import Derived.Test.YtephfpdnhdpmkaaGreatDoorQ1
import Derived.Test.YtephfpdnhdpmkaaGreatDoorAmOpen
open Int (reduceEq)
open Nat (reduceEqDiff reduceAdd reduceMul reduceLT reduceLeDiff)
set_option linter.all false
set_option maxHeartbeats 8000000
set_option maxRecDepth 1000000
namespace Go.Proofs.YtephfpdnhdpmkaaGreatDoor
open Go Go.Am Go.Spc Go.Rec
theorem CS {f:FuncId} {args:List AV} {H:ab} {r:Out×ab} (h:(cbL tab).ic f args H=some r):(cbL bP).ic f args H=some r:=L6.ic _ _ _ _ h
theorem lq {a b:Int}:∀{l:List Int} {p:Option Int},gp a b p l=true->(∀x∈l,a<=x/\x<b/\∀y,p=some y->y<x)/\l.Pairwise (· < ·)
 |[],_,_=>⟨by simp,.nil⟩
 | x::r,p,h=>by
   rw[mW,Bool.and_eq_true]at h;obtain⟨h1,h2⟩:=h;obtain⟨x1,x2,x3⟩:=of_decide_eq_true h1;obtain⟨i1,i2⟩:=lq h2;refine⟨fun y hy=> ?_,List.pairwise_cons.2 ⟨fun y hy=>(i1 y hy).2.2 x rfl,i2⟩⟩
   rcases List.mem_cons.1 hy with rfl|hy
   . exact⟨x1,x2,x3⟩
   . obtain⟨y1,y2,y3⟩:=i1 y hy;exact⟨y1,y2,fun z hz=>by have:=x3 z hz;have:=y3 x rfl;omega⟩
def dF (f:Frm):Int:=9+f.i/4+f.r/4+1
def pB (f:Frm) (bl:List Int) (i:Nat):Bool:=decide ((i:Int)<dF f)||decide ((i:Int)∈bl)
theorem BM.congr {G:ab} {mo id n:Nat} {many:Int} {p q:Nat->Bool} (B:BM G mo id n many p) (h:∀i,p i=q i):BM G mo id n many q:=by
 obtain rfl:p=q:=funext h;exact B
theorem I7 {f:Frm} {rt:Tv} {ns bl rl:List Int} {bv rv:AV} (I:Img f rt ns bl rl bv rv) (ok:okI f bl rl=true) (H:ab):
   ∃mo id G,(cbL tab).ic 40 [.agg (bT f (mkT rt ns) bv rv)] H=some (.ret (.ptr mo 0),G)/\BM G mo id 1 f.b (pB f bl)/\H.length<=mo/\H.length<=id/\(∀i,i<H.length->G[i]? =H[i]?):=by
 have hf:=I.fo;unfold okF at hf;have b64:=I.b64;obtain⟨k,hk⟩:=Int.eq_ofNat_of_zero_le (show 0<=f.b by omega);obtain⟨d,hd⟩:=Int.eq_ofNat_of_zero_le (show 0<=dF f by unfold dF;omega)
 have hdk:d<=k:=by unfold dF at hd;omega
 unfold okI at ok;rw[Bool.and_eq_true]at ok;have rm:=(lq ok.1).1;have o1:=I.b.one;have o2:=I.r.one;have lb:=I.lb;obtain⟨s,tk,hbv,hs,htk⟩:=I.b;clear I;generalize mkT rt ns=T at*;have im:bT f T bv rv=[.int .i64 f.b,.int .i64 f.i,.int .i64 f.r,.int .i64 f.t,.int .u64 5,.int .u64 6,.int .i64 9,.int .i64 (9+f.i/4),.int .i64 (9+f.i/4+f.r/4),.int .i64 (dF f),.sl 7 T.length (ah tvC T) .ro,bv,rv]:=rfl;obtain⟨C,hC⟩:∃C,C=H++[av.cells (bT f T bv rv)]:=⟨_,rfl⟩;obtain⟨G1,n1,n2,n3⟩:=FO (H:=C) (k:=k) (by omega) (by omega)
 have lC:C.length=H.length+1:=by rw[hC];simp
 rw[show(k+63)/64=1 by omega]at n3;obtain⟨G2,s1,s2,s3,s4⟩:=tI n3 (a:=0) (c:=d) (by omega);have:=eg (tab:=tab) (f:=40) (fi:=c40) (args:=[.agg (bT f T bv rv)]) (H:=H) (P:=fun o G=>o= .ret (.ptr (C.length+1) 0)/\BM G (C.length+1) C.length 1 f.b (pB f bl)/\(∀i,i<H.length->G[i]? =H[i]?)) rfl rfl (by simp[c40]) (by decide) ?_
 . obtain⟨o,G,e1,rfl,e2,e3⟩:=this;exact⟨_,_,G,e1,e2,by omega,by omega,e3⟩
 unfold c40
 have g0:∀L:List av,(H++L)[H.length]? =L[0]? :=fun L=>by rw[List.getElem?_append_right (Nat.le_refl _),Nat.sub_self]
 have cg:C[H.length]? =some (.cells (bT f T bv rv)):=by rw[hC,g0];rfl
 have gC:(C++G1)[H.length]? =some (.cells (bT f T bv rv)):=by rw[List.getElem?_append_left (by omega)];exact cg
 have gC2:G2[H.length]? =some (.cells (bT f T bv rv)):=by rw[s4 _ (by simp;omega) (by omega)];exact gC
 rw[<-hk]at n1;rw[<-hd]at s1;rw[im]at hC cg gC gC2 ⊢
 have pn:∀(a:AV) (H:ab),pcx (cbL tab) 48 [a] H=none:=fun a H=>bH rfl (bW (fi:=c48) rfl rfl)
 have l1:(cbL tab).cy 48=false:=rfl;have l2:(cbL tab).cy 50=false:=rfl;have s1:(cbL tab).ic 50 [.ptr (C.length+1) 0,.int .i64 0,.int .i64 (dF f)] (C++G1)=some (.ret (.int .i64 0),G2):=s1;subst hbv;simp(disch:=omega)only[wk,ae,↓reduceIte,reduceEqDiff,reduceEq,reduceAdd,reduceCtorEq,o1,o2,<-hC,cg,gC,gC2,pn,MO,aO l1,aO l2,n1,s1]
 refine aR (fun(x:List Int×List Int) E df G=>bl=x.1++x.2/\E 3= .ptr (C.length+1) 0/\E 24= .sl s bl.length (ah cA bl) tk/\E 25= .int .i64 ((bl.length:Nat):Int)/\E 26= .int .i64 ((x.1.length:Nat):Int)/\df=[]
     /\BM G (C.length+1) C.length 1 f.b (fun i=>(false||decide (0<=i/\i<0+d))||decide ((i:Int)∈x.1))/\(∀i,i<H.length->G[i]? =H[i]?))
   (fun x=>x.2.length) ([],bl) (by decide) (.inl rfl) ⟨rfl,rfl,rfl,rfl,rfl,rfl, ?_,fun i hi=> ?_⟩ ?_
 . refine BM.congr (p:=fun i=>false||decide (0<=i/\i<0+d)) (by rw[hk];exact s2) fun i=> ?_
   simp
 . rw[s4 i (by simp;omega) (by omega),List.getElem?_append_left (by omega),hC,List.getElem?_append_left hi]
 intro ⟨pre,suf⟩ E df G ih hP;obtain⟨a1,E3,E24,E25,E26,hdf,B,gold⟩:=hP;dsimp only at a1 E26 B;subst hdf
 have la:bl.length=pre.length+suf.length:=by rw[a1,List.length_append]
 cases suf with
 | nil=>
   have n1:¬(pre.length:Int)<(bl.length:Int):=by rw[la];simp
   have ep:pre=bl:=by rw[a1];simp
   simp(disch:=omega)only[wk,ae,↓reduceIte,reduceEqDiff,reduceEq,reduceAdd,reduceCtorEq,E3,E24,E25,E26,n1];refine⟨BM.congr B fun i=> ?_,gold⟩;unfold pB;rw[ep,hd,Bool.false_or];congr 1;by_cases h:i<d
   . rw[decide_eq_true (by omega),decide_eq_true (by omega)]
   . rw[decide_eq_false (by omega),decide_eq_false (by omega)]
 | cons x r=>
   rw[List.length_cons]at la
   have n1:(pre.length:Int)<(bl.length:Int):=by omega
   obtain rfl:=hs (by rw[a1];simp);have d1:=mA pre x r;rw[<-a1]at d1;obtain⟨x1,x2,_⟩:=rm x (by rw[a1];simp);obtain⟨z,hz⟩:=Int.eq_ofNat_of_zero_le (show 0<=x by unfold dF at hd;omega);obtain⟨G',q1,q2,q3,q4⟩:=tI B (a:=z) (c:=1) (by omega);rw[<-hz]at q1;have q1:(cbL tab).ic 50 [.ptr (C.length+1) 0,.int .i64 x,.int .i64 1] G=some (.ret (.int .i64 0),G'):=q1;simp(disch:=omega)only[wk,ae,↓reduceIte,reduceEqDiff,reduceEq,reduceAdd,reduceCtorEq,E3,E24,E25,E26,n1,d1,MO,aO l2,q1];refine ih (pre++[x],r) _ _ _ (by simp) ⟨by simp[a1],by simp only[en,↓reduceIte,reduceEqDiff,E3],by simp only[en,↓reduceIte,reduceEqDiff,E24],by simp only[en,↓reduceIte,reduceEqDiff,E25],by simp only[en,↓reduceIte,reduceEqDiff],rfl,BM.congr q2 fun i=> ?_,fun i hi=> ?_⟩
   . dsimp only;rw[Bool.or_assoc];congr 1;by_cases h:(i:Int)∈pre
     . rw[decide_eq_true h,decide_eq_true (List.mem_append.2 (.inl h))];rfl
     . rw[decide_eq_false h,Bool.false_or];by_cases e:(i:Int)=x
       . rw[decide_eq_true (by omega),decide_eq_true (List.mem_append.2 (.inr (List.mem_singleton.2 e)))]
       . rw[decide_eq_false (by omega),decide_eq_false fun hm=>(List.mem_append.1 hm).elim h fun hm=>e (List.mem_singleton.1 hm)]
   . rw[q4 i ?_ (by omega)];exact gold i hi;have:=(List.getElem?_eq_some_iff.1 B.w).1;omega
theorem LG {G:ab} {mo id n:Nat} {many:Int} {p:Nat->Bool} (B:BM G mo id n many p) {k:Nat} (hk:k<64*n):(cbL tab).ic 79 [.msl 1 id 0 n,.int .i64 (k:Int)] G=some (.ret (.bool (p k)),G):=by
 obtain⟨m,w,lo,hi,few⟩:=B;have:=eg (tab:=tab) (f:=79) (fi:=c79) (args:=[.msl 1 id 0 n,.int .i64 (k:Int)]) (H:=G) (P:=fun o G'=>o= .ret (.bool (p k))/\G'=G) rfl rfl (by simp[c79]) (by decide) ?_
 . obtain⟨o,G',e1,rfl,rfl⟩:=this;exact e1
 unfold c79
 have kd:k/64<n:=by omega
 have km:k % 64<64:=by omega
 have w1:IntKind.i64.wrap ((k/64:Nat):Int)=((k/64:Nat):Int):=wrap_i64 (by omega) (by omega);have g1:=Ac p kd
 have e:64*(k/64)+k % 64=k:=by omega
 have a1:=fun xo yo ek=>Hx (fun j=>p (64*(k/64)+j)) km (xo:=xo) (yo:=yo) (ek:=ek)
 rw[e]at a1
 cases hp:p k<;>rw[hp]at a1<;>simp only[Bool.false_eq_true,if_false,if_true]at a1<;>simp(disch:=omega)only[wk,ae,↓reduceIte,reduceEqDiff,reduceEq,reduceAdd,reduceCtorEq,w,td,tm,w1,g1,Nat.zero_add,Int.toNat_natCast,MG _ km,a1]
def LW (P:Int->Bool):Int->Nat->List Int
 |_,0=>[]
 |a,k+1=>if P a then a::LW P (a+1) k else LW P (a+1) k
def D8 (G:ab) (v:AV) (l:List Int):Prop:=Own G 1 v l.length (ah cA l)
theorem D8.app {G:ab} {v:AV} {l:List Int} (h:D8 G v l) (L:List av):D8 (G++L) v l:=by
 rcases h with h|⟨h0,g,h1,h2⟩
 . exact .inl h
 . exact .inr ⟨h0,g,h1,by rw[List.getElem?_append_left (List.getElem?_eq_some_iff.1 h2).1];exact h2⟩
def ON (f:Frm) (bl:List Int):List Int:=LW (fun b=> !pB f bl b.toNat) (dF f) (f.b-dF f).toNat
theorem BM.of {G G':ab} {mo id n:Nat} {many:Int} {p:Nat->Bool} (B:BM G mo id n many p) (h:∀i,i<G.length->G'[i]? =G[i]?):BM G' mo id n many p:=by
 obtain⟨m,w,lo,hi,few⟩:=B;exact⟨by rw[h _ (List.getElem?_eq_some_iff.1 m).1];exact m,by rw[h _ (List.getElem?_eq_some_iff.1 w).1];exact w,lo,hi,few⟩
theorem dP.aC {l:List Int} {v:AV} (h:dP l v):aC v=v:=by
 obtain⟨s,tk,rfl,_,ht⟩:=h;exact hfT ht _ _ _
def ixM:List Int->Int->Int->Int
 |[],_,_=> -1
 |y::r,x,i=>if x=y then i else ixM r x (i+1)
theorem D8.shape {G:ab} {v:AV} {l:List Int} (h:D8 G v l):∃s tk,v= .sl s l.length (ah cA l) tk/\(l≠[]->s=1):=by
 rcases h with⟨h1,h2,h3⟩|⟨h0,g,rfl,hg⟩
 . have:l=[]:=List.length_eq_zero_iff.1 h2;subst this
   rcases h1 with rfl|rfl
   . exact⟨_,_,rfl,fun h=>absurd rfl h⟩
   . exact⟨_,_,rfl,fun _=>rfl⟩
 . exact⟨_,_,rfl,fun _=>rfl⟩
end Go.Proofs.YtephfpdnhdpmkaaGreatDoor
namespace Go.Proofs.YtephfpdnhdpmkaaGreatDoor
open Go Go.Am Go.Spc
def mZ (f:Frm) (k0 k1:Int) (T:List Tv) (bv rv:AV):List AV:=[.int .i64 f.b,.int .i64 f.i,.int .i64 f.r,.int .i64 f.t,.int .u64 k0,.int .u64 k1,.int .i64 9,.int .i64 (9+f.i/4),.int .i64 (9+f.i/4+f.r/4),.int .i64 (9+f.i/4+f.r/4+1),.sl 7 T.length (ah tvC T) .ro,bv,rv]
theorem sN {f:Frm} {rt:Tv} {ns bl rl:List Int} {bv rv:AV} (I:Img f rt ns bl rl bv rv) {k0 k1:Int}:aC (.agg (mZ f k0 k1 (mkT rt ns) bv rv))= .agg (mZ f k0 k1 (mkT rt ns) bv rv):=by
 show AV.agg [_,_,_,_,_,_,_,_,_,_,_,au bv,au rv]=_
 rw[I.b.un,I.r.un];rfl
theorem JP {f:Frm} {rt:Tv} {ns bl rl:List Int} {bv rv:AV} (I:Img f rt ns bl rl bv rv) {k0 k1:Int}:hfL [.agg (mZ f k0 k1 (mkT rt ns) bv rv)]=true:=by
 have hhT:=gU (dQ I.ro ns);simp[mZ,hfL,AV.hf,hhT,I.b.hf,I.r.hf,Tk.hf]
theorem G3 {k0 k1:Int} {f:Frm} {T:List Tv} (hT:okT T) (hu:T.map un=T) {bl rl:List Int} {bv rv:AV} (hb:dP bl bv) (hr:dP rl rv) (H:ab):ef (some (.ret (.tup [.agg (mZ f k0 k1 T bv rv),.bool true]),H))=some (.plain (.tup [.agg (mZ f k0 k1 T bv rv),.bool true])):=by
 have hk:∀{l:List Int} {v:AV},dP l v->eX (bw H 3 v)=v:=by
   rintro l v ⟨s,tk,rfl,_,ht⟩
   have e:∀l:List Int,(ah cA l).map au=ah cA l:=by
     intro l
     induction l with
     |nil=>rfl
     |cons x l ih=>rw[aL,List.map_append,ih];rfl
   have e:=e l;show au (.sl s l.length ((ah cA l).map au) tk)=_
   rw[e]
   cases tk<;>first|rfl|cases ht
 have e1:oe H (.tup [.agg (mZ f k0 k1 T bv rv),.bool true])= .tup [.agg (mZ f k0 k1 T bv rv),.bool true]:=by
   have e:(AV.sl 7 T.length ((ah tvC T).map au) .ro)= .sl 7 T.length (ah tvC T) .ro:=by rw[lU,hu]
   show AV.tup [.agg [_,_,_,_,_,_,_,_,_,_,.sl 7 T.length ((ah tvC T).map au) .ro,eX (bw H 3 bv),eX (bw H 3 rv)],.bool true]=_
   rw[e,hk hb,hk hr];rfl
 simp only[ef,e1];rw[if_pos];have h1:=gU hT;have h2:=hb.hf;have h3:=hr.hf;simp[AV.hf,hfL,mZ,h1,h2,h3];rfl
theorem Jm {f:Frm} {rt:Tv} {ns bl rl:List Int} {bv rv:AV} (I:Img f rt ns bl rl bv rv) {k0 k1:Int} (u0:U64 k0) (u1:U64 k1) (hk:rt.nm=[]∨k0=5/\k1=6) (H:ab):
   pcx (cbL bP) 38 [.agg (mZ f k0 k1 (mkT rt ns) bv rv)] H=some (.plain (.tup [.agg (if okI f bl rl=true then mZ f k0 k1 (mkT rt ns) bv rv else z13),.bool (okI f bl rl)])):=by
 have hf:=I.fo;refine aS rfl (dm (fi:=c38) rfl ?_ (by simp[c38]) (by decide) ?_)
 . simp only[bF,List.map_cons,List.map_nil,(sN I),c38];exact JP I
 unfold c38;rw[List.map_cons,List.map_nil,(sN I)]
 have r1:=fun a b H=>toR (iz I.b (by have:=I.lb;omega) a b H)
 have r2:=fun a b H=>toR (iz I.r (by have:=I.lr;omega) a b H)
 have o1:=I.b.one;have o2:=I.r.one
 have wr:IntKind.i64.wrap (f.r+1)=f.r+1:=by obtain⟨_,_,_,_,_,x1,x2,_⟩:=hf;exact wrap_i64 (by omega) (by omega)
 have pd1:=fun H=>G3 (k0:=k0) (k1:=k1) (dQ I.ro ns) (kO I.ro ns) I.b I.r (f:=f) H
 have mo:=fun H=>Fc hf I.ro I.j (k0:=k0) (k1:=k1) u0 u1 hk H
 have pn:∀(v w:AV) (H:ab),pcx (cbL bP) 72 [v,w] H=none:=fun v w H=>bH rfl (bW (fi:=c72) rfl rfl)
 have ll:(cbL bP).cy 72=false:=rfl;generalize mkT rt ns=T at*;have la:bz f k0 k1=[.int .i64 f.b,.int .i64 f.i,.int .i64 f.r,.int .i64 f.t,.int .u64 k0,.int .u64 k1,.int .i64 9,.int .i64 (9+f.i/4),.int .i64 (9+f.i/4+f.r/4),.int .i64 (9+f.i/4+f.r/4+1)]:=rfl;have im:mZ f k0 k1 T bv rv=[.int .i64 f.b,.int .i64 f.i,.int .i64 f.r,.int .i64 f.t,.int .u64 k0,.int .u64 k1,.int .i64 9,.int .i64 (9+f.i/4),.int .i64 (9+f.i/4+f.r/4),.int .i64 (9+f.i/4+f.r/4+1),.sl 7 T.length (ah tvC T) .ro,bv,rv]:=rfl;rw[la]at mo;rw[im]at pd1 ⊢;unfold okI z13;obtain⟨G,mg,mk⟩:=mo [.cells (mZ f k0 k1 T bv rv),.cells z13];rw[im]at mg mk;unfold z13 at mg mk;have m0:=mk 0 (by simp);have m1:=mk 1 (by simp);simp only[List.getElem?_cons_zero,List.getElem?_cons_succ]at m0 m1
 have gs:∀o,(G.set 1 o)[1]? =some o:=fun o=>by rw[List.getElem?_set_self ((List.getElem?_eq_some_iff.1 m1).1)]
 have pz:∀H,ef (some (.ret (.tup [.agg [.int .i64 0,.int .i64 0,.int .i64 0,.int .i64 0,.int .u64 0,.int .u64 0,.int .i64 0,.int .i64 0,.int .i64 0,.int .i64 0,.sl 0 0 [] .z,.sl 0 0 [] .z,.sl 0 0 [] .z],.bool false]),H))=some (.plain (.tup [.agg [.int .i64 0,.int .i64 0,.int .i64 0,.int .i64 0,.int .u64 0,.int .u64 0,.int .i64 0,.int .i64 0,.int .i64 0,.int .i64 0,.sl 0 0 [] .z,.sl 0 0 [] .z,.sl 0 0 [] .z],.bool false])):=fun H=>rfl
 cases h1:gp (9+f.i/4+f.r/4+1) f.b none bl with
 | false=>
   simp(disch:=omega)only[wk,ae,↓reduceIte,reduceEqDiff,reduceEq,reduceAdd,reduceCtorEq,pn,aO ll,mg,m0,m1,o1,o2,r1,r2,h1,wr,aJ,ct,gs,Bool.and_self,Bool.and_false,Bool.false_and,Bool.and_true];rw[gj rfl];refine fE (by decide) (.inl rfl) ?_;simp(disch:=omega)only[wk,ae,↓reduceIte,reduceEqDiff,reduceEq,reduceAdd,reduceCtorEq,m1,gs,pz,Bool.false_and]
 | true=>
   cases h2:gp 1 (f.r+1) none rl with
   | false=>
     simp(disch:=omega)only[wk,ae,↓reduceIte,reduceEqDiff,reduceEq,reduceAdd,reduceCtorEq,pn,aO ll,mg,m0,m1,o1,o2,r1,r2,h1,h2,wr,aJ,ct,gs,Bool.and_self,Bool.and_false,Bool.false_and,Bool.and_true];rw[gj rfl];refine fE (by decide) (.inl rfl) ?_;simp(disch:=omega)only[wk,ae,↓reduceIte,reduceEqDiff,reduceEq,reduceAdd,reduceCtorEq,m1,gs,pz,Bool.and_false]
   | true=>
     simp(disch:=omega)only[wk,ae,↓reduceIte,reduceEqDiff,reduceEq,reduceAdd,reduceCtorEq,pn,aO ll,mg,m0,m1,o1,o2,r1,r2,h1,h2,wr,aJ,ct,gs,Bool.and_self,Bool.and_false,Bool.false_and,Bool.and_true,pd1]
end Go.Proofs.YtephfpdnhdpmkaaGreatDoor
namespace Go.Am
open Go
def eqL (p:AV->AV->Bool):List AV->List AV->Bool
 |[],[]=>true
 |a::r,b::s=>p a b&&eqL p r s
 |_,_=>false
def eqD:Nat->AV->AV->Bool
 |0,_,_=>false
 | n+1,a,b=>
   match a,b with
   | .sl s k cs tk,.sl s' k' ds tk'=>Nat.beq s s'&&(Nat.beq k k'&&(eqT tk tk'&&eqL (eqD n) cs ds))
   | .agg cs,.agg ds=>eqL (eqD n) cs ds
   |a,b=>eqS a b
theorem uR {p:AV->AV->Bool} (hp:∀a b,p a b=true->a=b):∀{a b:List AV},eqL p a b=true->a=b
 |[],[],_=>rfl
 | a::r,b::s,h=>by
   simp only[eqL,Bool.and_eq_true]at h;rw[hp _ _ h.1,uR hp h.2]
 |[],_::_,h=>by cases h
 |_::_,[],h=>by cases h
theorem yt:∀(n:Nat) (a b:AV),eqD n a b=true->a=b
 |0,_,_,h=>by cases h
 | n+1,a,b,h=>by
   unfold eqD at h;split at h
   . simp only[Bool.and_eq_true]at h;rw[Nat.eq_of_beq_eq_true h.1,Nat.eq_of_beq_eq_true h.2.1,GO h.2.2.1,uR (yt n) h.2.2.2]
   . rw[uR (yt n) h]
   . exact zh h
end Go.Am
namespace Go.Proofs.YtephfpdnhdpmkaaGreatDoor
open Go Go.Am Go.Spc Go.Rec
def fW:Frm:=⟨32,8,16,8⟩
def blW:List Int:=[18,19,24,25,26,27,28,29,30,31]
def IG:List AV:=[.int .i64 32,.int .i64 8,.int .i64 16,.int .i64 8,.int .u64 1,.int .u64 2,.int .i64 9,.int .i64 11,.int .i64 15,.int .i64 16,.sl 7 1 [.int .i64 1,.int .i64 2,.int .i64 1,.sl 0 0 [] .z,.int .i64 1,.sl 0 0 [] .z,.str (ByteArray.mk (Array.mk []))] .ro,.sl 1 10 [.int .i64 18,.int .i64 19,.int .i64 24,.int .i64 25,.int .i64 26,.int .i64 27,.int .i64 28,.int .i64 29,.int .i64 30,.int .i64 31] .ro,.sl 0 0 [] .z]
theorem N1:(cbL bP).pc 38 [.agg IG]=some (.plain (.tup [.agg IG,.bool true])):=by
 have I:Img fW j7 [] blW [] (.sl 1 10 (ah cA blW) .ro) (.sl 0 0 [] .z):=⟨by decide,oP,JV.nil _ (by decide),⟨1,.ro,rfl,fun _=>rfl,rfl⟩,⟨0,.z,rfl,fun h=>absurd rfl h,rfl⟩,by decide,by decide,by decide⟩;have h:=Jm I (k0:=1) (k1:=2) ⟨by decide,by decide⟩ ⟨by decide,by decide⟩ (.inl rfl) []
 have e:okI fW blW []=true:=by decide
 rw[e,if_pos rfl]at h;rw[zo rfl]at h;exact h
def C5 (f:FuncId) (args:List AV):Option PR:=if Nat.beq f 38&&eqL (eqD 5) [.agg IG] (args.map aC)then some (.plain (.tup [.agg IG,.bool true]))else none
theorem B7:∀f args r,C5 f args=some r->(cbL bP).pc f args=some r:=by
 intro f args r h;unfold C5 at h;split at h
 . rename_i hc;rw[Bool.and_eq_true]at hc;cases h;have hf:=Nat.eq_of_beq_eq_true hc.1;have ha:=uR (yt 5) hc.2;subst hf;refine o5 rfl ?_;rw[<-ha];exact N1
 . cases h
theorem Dv:(cbL bP).pc 9 []=some (.plain (.bool true)):=C3 B7 300 (by kernel_rfl)
theorem jA (e:Int) (H:ab):pcx (cbL bP) 14 [.int .i64 e] H=some (.plain (.int .i64 e)):=by
 refine toR (aS rfl (bc (fi:=c14) rfl rfl (by simp[c14]) (by decide) ?_));unfold c14;rw[List.map_cons,List.map_nil,aE];simp(disch:=omega)only[wk,ae,↓reduceIte,reduceEqDiff,reduceEq,reduceAdd,reduceCtorEq,aB,aI,aC,au,AV.hf,hfL]
theorem dw (H:ab):pcx (cbL bP) 9 [] H=some (.plain (.bool true)):=aS rfl Dv
theorem OF {f:FuncId} {args:List AV} {r:PR} (h:(cbL tab).pc f args=some r):(cbL bP).pc f args=some r:=L6.pc _ _ _ h
theorem M9 {f:Frm} {bl rl fl:List Int} {bv rv:AV} (hb:dP bl bv) (hr:dP rl rv) (h:okU f bl rl fl) {rt:Tv} {ns:List Int} (h1:cG rt) (h2:JV f rt.nm ns):Img f rt ns bl rl bv rv:=
 ⟨h.1,h1,h2,hb,hr,h.2.2.1,h.2.2.2.1,h.2.1⟩
end Go.Proofs.YtephfpdnhdpmkaaGreatDoor
namespace Go.Spc
open Go Go.Am
structure Rn where
 a:Int
 m:Int
def rnA (x:Rn):List AV:=[.int .i64 x.a,.int .i64 x.m]
instance : pL rnA 2 := ⟨fun _ => rfl⟩
def MY (out:List Rn) (b:Int):List Rn:=
 match out.getLast? with
 |some x=>if x.a+x.m=b then out.dropLast++[⟨x.a,x.m+1⟩] else out++[⟨b,1⟩]
 |none=>out++[⟨b,1⟩]
def Mp:Int->List Int->List Rn
 |_,[]=>[]
 |e,b::r=>if e<b then⟨e,b-e⟩::Mp (b+1) r else Mp (b+1) r
def OS (out:List Rn) (e:Int):Prop:=∀x,out.getLast? =some x->x.a+x.m<e
end Go.Spc
namespace Go.Proofs.YtephfpdnhdpmkaaGreatDoor
open Go Go.Am Go.Spc
def eL (p:Nat->Bool):Rn->Nat->Nat->List Rn
 |r,_,0=>if r.m=0 then [] else [r]
 |r,k,f+1=>if p k then(if r.m=0 then eL p ⟨k,1⟩ (k+1) f else eL p ⟨r.a,r.m+1⟩ (k+1) f)else(if r.m=0 then eL p ⟨0,0⟩ (k+1) f else r::eL p ⟨0,0⟩ (k+1) f)
def Ku (n:Int):Int->List Rn->List Rn
 |e,[]=>if e<n then [⟨e,n-e⟩] else []
 |e,r::l=>if e<r.a then⟨e,r.a-e⟩::Ku n (r.a+r.m) l else Ku n (r.a+r.m) l
def Lk (p:Nat->Bool):Int->Nat->Nat->List Rn
 |e,k,0=>if e<k then [⟨e,k-e⟩] else []
 |e,k,f+1=>if p k then(if e<k then⟨e,k-e⟩::Lk p ((k+1:Nat):Int) (k+1) f else Lk p ((k+1:Nat):Int) (k+1) f)else Lk p e (k+1) f
def OJ (p:Nat->Bool):Nat->Nat
 |0=>0
 |n+1=>OJ p n+(if p n then 1 else 0)
end Go.Proofs.YtephfpdnhdpmkaaGreatDoor
namespace Go.Proofs.YtephfpdnhdpmkaaGreatDoor
open Go Go.Am Go.Spc Go.Rec
def mX (l:List Rn) (i:Nat):Bool:=l.any fun x=>decide (x.a<=(i:Int)/\(i:Int)<x.a+x.m)
theorem F8 (l:List Rn) (x:Rn) (i:Nat):mX (l++[x]) i=(mX l i||decide (x.a<=(i:Int)/\(i:Int)<x.a+x.m)):=by
 unfold mX;rw[List.any_append];simp
theorem sY (x:Rn) (l:List Rn) (i:Nat):mX (x::l) i=(decide (x.a<=(i:Int)/\(i:Int)<x.a+x.m)||mX l i):=rfl
theorem lY (p:Nat->Bool) (i:Nat):∀(f k:Nat) (r:Rn),(r.m=0∨0<r.m/\r.a+r.m=k)->mX (eL p r k f) i=(decide (r.a<=(i:Int)/\(i:Int)<r.a+r.m)||(decide (k<=i/\i<k+f)&&p i))
 | 0,k,r,hr=>by
   rw[eL,decide_eq_false (show¬(k<=i/\i<k+0)by omega),Bool.false_and,Bool.or_false];split
   . rename_i h
     rw[decide_eq_false (by omega)];rfl
   . rw[sY];show(_||false)=_;rw[Bool.or_false]
 | f+1,k,r,hr=>by
   rw[eL]
   cases hp:p k with
   | true=>
     rw[if_pos rfl];by_cases hm:r.m=0
     . rw[if_pos hm,lY p i f (k+1) ⟨k,1⟩ (.inr ⟨by simp only;omega,by simp only;omega⟩)];simp only;rw[decide_eq_false (show¬(r.a<=(i:Int)/\(i:Int)<r.a+r.m)by omega),Bool.false_or];by_cases e:i=k
       . subst e
         rw[hp,decide_eq_true (show((i:Int)<=(i:Int)/\(i:Int)<(i:Int)+1)by omega),decide_eq_true (show i<=i/\i<i+(f+1)by omega)];rfl
       . rw[decide_eq_false (show¬((k:Int)<=(i:Int)/\(i:Int)<(k:Int)+1)by omega),Bool.false_or];congr 1
         rw[decide_eq_decide];omega
     . have hr:=hr.resolve_left hm;rw[if_neg hm,lY p i f (k+1) ⟨r.a,r.m+1⟩ (.inr ⟨by simp only;omega,by simp only;omega⟩)];simp only;by_cases e:i=k
       . subst e;rw[hp,decide_eq_true (show(r.a<=(i:Int)/\(i:Int)<r.a+(r.m+1))by omega),decide_eq_true (show i<=i/\i<i+(f+1)by omega)];simp
       . congr 1
         . rw[decide_eq_decide];omega
         . congr 1
           rw[decide_eq_decide];omega
   | false=>
     rw[if_neg Bool.false_ne_true]
     have key:(decide (k<=i/\i<k+(f+1))&&p i)=(decide (k+1<=i/\i<k+1+f)&&p i):=by
       by_cases e:i=k
       . subst e;rw[hp,Bool.and_false,Bool.and_false]
       . congr 1
         rw[decide_eq_decide];omega
     have z:=lY p i f (k+1) ⟨0,0⟩ (.inl rfl);simp only at z;rw[decide_eq_false (show¬((0:Int)<=(i:Int)/\(i:Int)<0+0)by omega),Bool.false_or]at z;by_cases hm:r.m=0
     . rw[if_pos hm,z,decide_eq_false (show¬(r.a<=(i:Int)/\(i:Int)<r.a+r.m)by omega),Bool.false_or,key]
     . rw[if_neg hm,sY,z,key]
def bL (q:Nat->Bool) (n:Nat):List AV:=(List.range n).map fun i=> .bool (q i)
theorem kC (q:Nat->Bool) (n:Nat):(bL q n).length=n:=by simp[bL]
theorem y9 (q:Nat->Bool) {n i:Nat} (h:i<n):(bL q n)[i]? =some (.bool (q i)):=by
 unfold bL
 rw[List.getElem?_map,List.getElem?_range h];rfl
theorem Gy (q:Nat->Bool) {n i:Nat} (h:i<n):List.take i (bL q n)++[.bool true]++List.drop (i+1) (bL q n)=bL (fun j=>q j||decide (j=i)) n:=by
 have e:List.take i (bL q n)++[.bool true]++List.drop (i+1) (bL q n)=(bL q n).set i (.bool true):=by
   rw[List.set_eq_take_append_cons_drop,if_pos (by rw[kC];exact h)];simp
 rw[e];apply List.ext_getElem?;intro k;rw[List.getElem?_set,kC];by_cases hk:k<n
 . rw[y9 _ hk,y9 _ hk];by_cases e:i=k
   . subst e;rw[if_pos rfl,if_pos h];simp
   . have:¬k=i:=fun h=>e h.symm
     rw[if_neg e];simp[this]
 . have h2:∀q,(bL q n)[k]? =none:=fun q=>List.getElem?_eq_none (by rw[kC];omega)
   rw[h2,h2,if_neg (by omega)]
theorem NG (q:Nat->Bool) (n:Nat):hfL (bL q n)=true:=by
 unfold bL
 induction (List.range n)with
 |nil=>rfl
 |cons x l ih=>rw[List.map_cons];simp only[hfL,ih];rfl
theorem tR {p q:Nat->Bool} {n:Nat} (h:∀i,i<n->p i=q i):bL p n=bL q n:=by
 unfold bL;apply List.map_congr_left;intro k hk;rw[List.mem_range]at hk;rw[h k hk]
theorem OE (n:Nat):bX n [AV.bool false]=bL (fun _=>false) n:=by
 unfold bL;rw[List.map_const',List.length_range]
 induction n with
 |zero=>rfl
 |succ n ih=>rw[List.replicate_succ,<-ih];rfl
theorem HU {G:ab} {mo id n:Nat} {many:Int} {p:Nat->Bool} (B:BM G mo id n many p):(cbL tab).ic 74 [.ptr mo 0] G=some (.ret (.int .i64 many),G):=by
 have n0:=tV B;obtain⟨m,w,lo,hi,few⟩:=B;have:=eg (tab:=tab) (f:=74) (fi:=c74) (args:=[.ptr mo 0]) (H:=G) (P:=fun o G'=>o= .ret (.int .i64 many)/\G'=G) rfl rfl (by simp[c74]) (by decide) ?_
 . obtain⟨o,G',e1,rfl,rfl⟩:=this;exact e1
 unfold c74;have l1:(cbL tab).cy 75=false:=rfl;simp(disch:=omega)only[wk,ae,↓reduceIte,reduceEqDiff,reduceEq,reduceAdd,reduceCtorEq,m,Ew,aO l1,n0]
def OU (l:List Rn) (v:AV):Prop:=∃s tk,v= .sl s l.length (ah rnA l) tk/\(l≠[]->s=2)/\tk.hf=true
def O0 (G:ab) (v:AV) (l:List Rn):Prop:=(v= .sl 0 0 [] .z/\l=[])∨(l≠[]/\∃id,v= .rsl 2 id l.length/\G[id]? =some (.cells (ah rnA l)))
def OP (l:List Int):List Rn:=l.foldl MY []
theorem rI {v:AV} (h:OkS (.int .i64) v):∃n:Int,v= .int .i64 n:=by
 cases h;exact⟨_,rfl⟩
theorem He:∀(rows:List (List AV)),(∀r∈rows,r.length=1)->(∀r∈rows,∀(i:Nat) (s:Sh) (v:AV),([.int .i64]:List Sh)[i]? =some s->r[i]? =some v->OkS s v)->∃l:List Int,rows.flatten=ah cA l/\rows.length=l.length
 |[],_,_=>⟨[],rfl,rfl⟩
 | r::rows,h1,h2=>by
   obtain⟨l,e1,e2⟩:=He rows (fun x hx=>h1 x (List.mem_cons_of_mem _ hx)) (fun x hx=>h2 x (List.mem_cons_of_mem _ hx));have hr:=h1 r (List.mem_cons_self ..)
   match r,hr with
   | [v],_=>
     obtain⟨n,rfl⟩:=rI (h2 [v] (List.mem_cons_self ..) 0 (.int .i64) v rfl rfl);refine⟨n::l, ?_,by rw[List.length_cons,List.length_cons,e2]⟩
     rw[List.flatten_cons,e1];rfl
theorem Aa {v:AV} (h:OkS (.slice [.int .i64]) v):∃l,dP l v:=by
 cases h with
 |slnil=>exact⟨[],1,.z,rfl,fun _=>rfl,rfl⟩
 | sl _ rows h hl hr=>
   obtain⟨l,e1,e2⟩:=He rows hl hr;exact⟨l,1,.ro,by rw[e1,e2];rfl,fun _=>rfl,rfl⟩
def NzR (l:List Int) (v:AV):Prop:=l≠[]->∀s n cs,v≠ .sl s n cs .z
theorem GX {v:AV} (h:OkS (.slice [.int .i64]) v):∃l,dP l v/\NzR l v:=by
 cases h with
 |slnil=>exact⟨[],⟨1,.z,rfl,fun _=>rfl,rfl⟩,fun h=>absurd rfl h⟩
 | sl _ rows h hl hr=>
   obtain⟨l,e1,e2⟩:=He rows hl hr;exact⟨l,⟨1,.ro,by rw[e1,e2];rfl,fun _=>rfl,rfl⟩,fun _ s n cs e=>by cases e⟩
theorem IQ {x:List AV} (o:OkL [.int .i64,.int .i64,.int .i64,.int .i64,.slice [.int .i64],.slice [.int .i64],.slice [.int .i64]] x):∃f bl rl fl bv rv fv,.agg x=iB f bv rv fv/\dP bl bv/\dP rl rv/\dP fl fv/\NzR bl bv:=by
 obtain⟨hl,ho⟩:=o
 match x,hl with
 | [a,b,c,d,e,f,g],_=>
   obtain⟨n0,rfl⟩:=rI (ho 0 _ a rfl rfl);obtain⟨n1,rfl⟩:=rI (ho 1 _ b rfl rfl);obtain⟨n2,rfl⟩:=rI (ho 2 _ c rfl rfl);obtain⟨n3,rfl⟩:=rI (ho 3 _ d rfl rfl);obtain⟨bl,hb,hz⟩:=GX (ho 4 _ e rfl rfl);obtain⟨rl,hr⟩:=Aa (ho 5 _ f rfl rfl);obtain⟨fl,hf⟩:=Aa (ho 6 _ g rfl rfl);exact⟨⟨n0,n1,n2,n3⟩,bl,rl,fl,e,f,g,rfl,hb,hr,hf,hz⟩
def OD:aH:=(.region [qo 11 (.alloc [(.int .i64 0),(.int .i64 0)]),qe (.store 2 (.t 11) (.t 34))])
def Ol:aH:=(.block 3 (.seq (.seq (.drawn [ql 35 10,ql 36 7,qo 37 (.len 0 (.t 36)),qn 38 .geq (.t 35) (.t 37),qm 39 38,qg 40 (.load 2 true (.t 11)) 39 false,qg 41 (.load 1 false (.t 7)) 39 false,qg 42 (.load 1 false (.t 10)) 39 false,qg 43 (.ixa 2 (.t 41) (.t 42)) 39 false,qg 44 (.load 2 true (.t 43)) 39 false] [qg 45 (.bin .neq (.struct [0,0]) (.t 40) (.t 44)) 39 false,qk 46 39 qt (.t 45)]) (.cond (.t 46) (.seq (.region [qs 4 qz]) .ret) .skip)) (.seq (.region [ql 47 10,qn 48 .add (.t 47) (qi 1),qs 10 (.t 48)]) (.seq (.region [ql 49 9,qn 50 .eql (.t 49) (qi 0),qm 51 50,qg 52 (.load 1 false (.t 10)) 51 true,qg 53 (.load 1 false (.t 3)) 51 true,qg 54 (.bin .geq .num (.t 52) (.t 53)) 51 true,qk 55 51 (.t 54) qz]) (.cond (.t 55) (.exit 2) .skip)))))
structure RuS (C:List AV) (W:List Rn) (w:AV) (many t:Int) (N vb mb wb tb nb:Nat) (lo:av) (j:Nat) (G:ab):Prop where
 v:G[vb]? =some (.cells C)
 m:G[mb]? =some (.cells [.int .i64 many])
 w:G[wb]? =some (.cells [w])
 t:G[tb]? =some (.cells [.int .i64 t])
 n:G[nb]? =some (.cells [.int .i64 (j:Int)])
 d:G[N]? =some .gA
 l:G[N+1]? =some lo
theorem xq (a m:Int):aW [0,0] [AV.int .i64 a,.int .i64 m] [.int .i64 0,.int .i64 0]=some (decide (a=0)&&decide (m=0)):=by
 by_cases h:a=0
 . by_cases h2:m=0
   . subst h h2;rfl
   . have hb:(m==0)=false:=by simpa using h2
     subst h;simp[aW,bk,hb,h2]
 . have hb:(a==0)=false:=by simpa using h
   simp[aW,bk,hb,h]
theorem Mi {xo yo:X} {r:Rn} (h:r.m=0->r.a=0):bE .eql (.struct [0,0]) xo yo (.agg [.int .i64 r.a,.int .i64 r.m]) (.agg [.int .i64 0,.int .i64 0])=some (.bool (decide (r.m=0))):=by
 show(eqV (.struct [0,0]) (.agg [.int .i64 r.a,.int .i64 r.m]) (.agg [.int .i64 0,.int .i64 0])).map AV.bool=_
 have e:eqV (.struct [0,0]) (.agg [.int .i64 r.a,.int .i64 r.m]) (.agg [.int .i64 0,.int .i64 0])=aW [0,0] [.int .i64 r.a,.int .i64 r.m] [.int .i64 0,.int .i64 0]:=rfl;rw[e,xq];by_cases h0:r.m=0
 . rw[h h0,h0];rfl
 . rw[decide_eq_false h0,Bool.and_false];rfl
theorem Ah {xo yo:X} {r:Rn} (h:r.m=0->r.a=0):bE .neq (.struct [0,0]) xo yo (.agg [.int .i64 r.a,.int .i64 r.m]) (.agg [.int .i64 0,.int .i64 0])=some (.bool (!decide (r.m=0))):=by
 show(eqV (.struct [0,0]) (.agg [.int .i64 r.a,.int .i64 r.m]) (.agg [.int .i64 0,.int .i64 0])).map (fun b=>AV.bool (!b))=_
 have e:eqV (.struct [0,0]) (.agg [.int .i64 r.a,.int .i64 r.m]) (.agg [.int .i64 0,.int .i64 0])=aW [0,0] [.int .i64 r.a,.int .i64 r.m] [.int .i64 0,.int .i64 0]:=rfl;rw[e,xq];by_cases h0:r.m=0
 . rw[h h0,h0];rfl
 . rw[decide_eq_false h0,Bool.and_false];rfl
def Kk (id N:Nat) (L:List Rn) (J:List Rn->ab->Prop) (Dn:ab->Prop):Prop:=
 ∀pre x post G,L=pre++x::post->J pre G->N<=G.length->∃b G',(cbL bP).yl id [.agg (rnA x)] G=some (.ret (.bool b),G')/\G.length<=G'.length/\(∀i,N<=i->i<G.length->G'[i]? =G[i]?)/\if b=true then J (pre++[x]) G' else Dn G'
theorem CD {n:Nat} {many:Nat} {p:Nat->Bool} {mo id vb yid N:Nat} {H:ab} (J:List Rn->ab->Prop) (Dn:ab->Prop)
   (hN:N<=H.length) (hv:∀pre G,J pre G->G[vb]? =some (.cells [.ptr mo 0])/\BM G mo id n many p)
   (hA:∀pre G G',J pre G->(∀i,i<N->G'[i]? =G[i]?)->J pre G') (hD:∀G G',Dn G->(∀i,i<N->G'[i]? =G[i]?)->Dn G')
   (hY:Kk yid N (eL p ⟨0,0⟩ 0 many) J Dn) (j0:J [] H):
   ∃G,(cbL bP).ic 80 [.yld yid,.ptr vb 0] H=some (.ret (.tup []),G)/\(J (eL p ⟨0,0⟩ 0 many) G∨Dn G):=by
 have:=eg (tab:=bP) (f:=80) (fi:=c80) (args:=[.yld yid,.ptr vb 0]) (H:=H) (P:=fun o G=>o= .ret (.tup [])/\(J (eL p ⟨0,0⟩ 0 many) G∨Dn G)) rfl rfl (by simp[c80]) (by decide) ?_
 . obtain⟨o,G,e1,rfl,e2⟩:=this;exact⟨G,e1,e2⟩
 obtain⟨S,hS⟩:∃S,S=eL p ⟨0,0⟩ 0 many:=⟨_,rfl⟩;rw[<-hS]at hY ⊢
 have j1:J [] (H++[.cells [.int .i64 0,.int .i64 0]]):=hA _ _ _ j0 fun i hi=>List.getElem?_append_left (by omega)
 obtain⟨v1,B1⟩:=hv _ _ j1;have ln:=CS (HU B1)
 have pl:∀(v:Nat) (H:ab),pcx (cbL bP) 74 [.ptr v 0] H=none:=fun v H=>bH rfl (bW (fi:=c74) rfl rfl)
 have l1:(cbL bP).cy 74=false:=rfl;have l2:(cbL bP).cy 79=false:=rfl
 have ph:∀(id n:Nat) (a:AV) (H:ab),pcx (cbL bP) 79 [.msl 1 id 0 n,a] H=none:=fun id n a H=>bH rfl (bW (fi:=c79) rfl rfl)
 have hi:=B1.hi;have few:=B1.few;unfold c80;simp(disch:=omega)only[wk,ae,↓reduceIte,reduceEqDiff,reduceEq,reduceAdd,reduceCtorEq,v1,pl,aO l1,ln]
 refine aR (fun(k:Nat) E df G=>k<=many/\E 0= .yld yid/\E 1= .ptr vb 0/\E 3= .ptr H.length 0/\E 6= .int .i64 (many:Int)/\E 7= .int .i64 (k:Int)/\df=[]/\H.length+1<=G.length∧
     ∃(r:Rn) (pre:List Rn),S=pre++eL p r k (many-k)/\J pre G/\G[H.length]? =some (.cells [.int .i64 r.a,.int .i64 r.m])/\(r.m=0->r.a=0)/\0<=r.m/\r.m<=k)
   (fun k=>many-k) 0 (by decide) (.inl rfl) ⟨Nat.zero_le _,rfl,rfl,rfl,rfl,rfl,rfl,by simp,⟨0,0⟩,[],hS,j1,by simp,fun _=>rfl,Int.le_refl _,Int.le_refl _⟩ ?_
 intro k E df G ih hP;obtain⟨hk,E0,E1,E3,E6,E7,hdf,gl,r,pre,e1,jG,gr,r0,r1,r2⟩:=hP;subst hdf;obtain⟨vG,BG⟩:=hv _ _ jG
 have is0:=fun xo yo=>Mi (xo:=xo) (yo:=yo) r0
 have not0:=fun xo yo=>Ah (xo:=xo) (yo:=yo) r0
 have st1:∀o:av,(G.set H.length o)[H.length]? =some o:=fun o=>List.getElem?_set_self (by omega)
 have jst:∀pre o,J pre G->J pre (G.set H.length o):=fun pre o h=>hA _ _ _ h fun i hi=>List.getElem?_set_ne (by omega)
 by_cases hkm:k<many
 . have n1:(k:Int)<(many:Int):=by omega
   have hs:=CS (LG BG (k:=k) (by omega));have mG:=BG.m;obtain⟨f,hf⟩:∃f,many-k=f+1:=⟨many-k-1,by omega⟩
   have hf2:f=many-(k+1):=by omega
   rw[hf,eL]at e1
   cases hp:p k with
   | true=>
     rw[hp]at hs e1;rw[if_pos rfl]at e1;by_cases hm:r.m=0
     . rw[if_pos hm,hf2]at e1;simp(disch:=omega)only[wk,ae,↓reduceIte,reduceEqDiff,reduceEq,reduceAdd,reduceCtorEq,E0,E1,E3,E6,E7,n1,vG,mG,gr,ph,aO l2,hs,is0,not0,hm,st1];exact ih (k+1) _ _ _ (by omega) ⟨by omega,by simp only[en,↓reduceIte,reduceEqDiff,E0],by simp only[en,↓reduceIte,reduceEqDiff,E1],by simp only[en,↓reduceIte,reduceEqDiff,E3],by simp only[en,↓reduceIte,reduceEqDiff,E6],by simp only[en,↓reduceIte,reduceEqDiff],rfl,by simp;omega,⟨k,1⟩,pre,e1,jst _ _ jG,st1 _,by simp,by simp,by simp;omega⟩
     . rw[if_neg hm,hf2]at e1;have w1:IntKind.i64.wrap (r.m+1)=r.m+1:=wrap_i64 (by omega) (by omega);simp(disch:=omega)only[wk,ae,↓reduceIte,reduceEqDiff,reduceEq,reduceAdd,reduceCtorEq,E0,E1,E3,E6,E7,n1,vG,mG,gr,ph,aO l2,hs,is0,not0,hm,st1,w1];exact ih (k+1) _ _ _ (by omega) ⟨by omega,by simp only[en,↓reduceIte,reduceEqDiff,E0],by simp only[en,↓reduceIte,reduceEqDiff,E1],by simp only[en,↓reduceIte,reduceEqDiff,E3],by simp only[en,↓reduceIte,reduceEqDiff,E6],by simp only[en,↓reduceIte,reduceEqDiff],rfl,by simp;omega,⟨r.a,r.m+1⟩,pre,e1,jst _ _ jG,st1 _,by simp only;omega,by simp only;omega,by simp only;omega⟩
   | false=>
     rw[hp]at hs e1;rw[if_neg Bool.false_ne_true]at e1;by_cases hm:r.m=0
     . rw[if_pos hm,hf2]at e1;have ra:=r0 hm;simp(disch:=omega)only[wk,ae,↓reduceIte,reduceEqDiff,reduceEq,reduceAdd,reduceCtorEq,E0,E1,E3,E6,E7,n1,vG,mG,gr,ph,aO l2,hs,is0,not0,hm,st1];exact ih (k+1) _ _ _ (by omega) ⟨by omega,by simp only[en,↓reduceIte,reduceEqDiff,E0],by simp only[en,↓reduceIte,reduceEqDiff,E1],by simp only[en,↓reduceIte,reduceEqDiff,E3],by simp only[en,↓reduceIte,reduceEqDiff,E6],by simp only[en,↓reduceIte,reduceEqDiff],rfl,gl,⟨0,0⟩,pre,e1,jG,by rw[gr,ra,hm],by simp,by simp,by simp only;omega⟩
     . rw[if_neg hm,hf2]at e1;obtain⟨b,G',y1,y2,y3,y4⟩:=hY pre r _ G e1 jG (by omega);have y1:(cbL bP).yl yid [.agg [.int .i64 r.a,.int .i64 r.m]] G=some (.ret (.bool b),G'):=y1;have gr':G'[H.length]? =some (.cells [.int .i64 r.a,.int .i64 r.m]):=(y3 _ hN (by omega)).trans gr
       have st2:∀o:av,(G'.set H.length o)[H.length]? =some o:=fun o=>List.getElem?_set_self (by omega)
       have z0:=fun xo yo=>Ah (xo:=xo) (yo:=yo) (r:=⟨0,0⟩) fun _=>rfl
       cases b with
       | false=>
         rw[if_neg Bool.false_ne_true]at y4;simp(disch:=omega)only[wk,ae,↓reduceIte,reduceEqDiff,reduceEq,reduceAdd,reduceCtorEq,E0,E1,E3,E6,E7,n1,vG,mG,gr,ph,aO l2,hs,is0,not0,hm,st1,y1,gr',st2,z0];exact .inr (hD _ _ y4 fun i hi=>List.getElem?_set_ne (by omega))
       | true=>
         rw[if_pos rfl]at y4;simp(disch:=omega)only[wk,ae,↓reduceIte,reduceEqDiff,reduceEq,reduceAdd,reduceCtorEq,E0,E1,E3,E6,E7,n1,vG,mG,gr,ph,aO l2,hs,is0,not0,hm,st1,y1,gr',st2];exact ih (k+1) _ _ _ (by omega) ⟨by omega,by simp only[en,↓reduceIte,reduceEqDiff,E0],by simp only[en,↓reduceIte,reduceEqDiff,E1],by simp only[en,↓reduceIte,reduceEqDiff,E3],by simp only[en,↓reduceIte,reduceEqDiff,E6],by simp only[en,↓reduceIte,reduceEqDiff],rfl,by simp;omega,⟨0,0⟩,pre++[r],by rw[e1];simp,hA _ _ _ y4 fun i hi=>List.getElem?_set_ne (by omega),st2 _,by simp,by simp,by simp only;omega⟩
 . have:many-k=0:=by omega
   rw[this,eL]at e1
   have n1:¬(k:Int)<(many:Int):=by omega
   by_cases hm:r.m=0
   . rw[if_pos hm,List.append_nil]at e1;simp(disch:=omega)only[wk,ae,↓reduceIte,reduceEqDiff,reduceEq,reduceAdd,reduceCtorEq,E0,E1,E3,E6,E7,n1,gr,is0,not0,hm];rw[e1];exact .inl jG
   . rw[if_neg hm]at e1;obtain⟨b,G',y1,y2,y3,y4⟩:=hY pre r [] G e1 jG (by omega);have y1:(cbL bP).yl yid [.agg [.int .i64 r.a,.int .i64 r.m]] G=some (.ret (.bool b),G'):=y1;simp(disch:=omega)only[wk,ae,↓reduceIte,reduceEqDiff,reduceEq,reduceAdd,reduceCtorEq,E0,E1,E3,E6,E7,n1,gr,is0,not0,hm,y1]
     cases b with
     |false=>rw[if_neg Bool.false_ne_true]at y4;exact .inr y4
     |true=>rw[if_pos rfl]at y4;rw[e1];exact .inl y4
def OQ (f:Frm) (bl rl:List Int):List Rn:=if okI f bl rl then Mp (dF f) (bl++[f.b])else []
def OW:aH:=(.seq (.seq (.region [ql 29 9,qn 30 .lss (.t 29) (qi 2)]) (.cond (.t 30) .skip (.exit 0))) (.seq (.block 1 (.seq (.region [qo 10 (.alloc [(.int .i64 0)]),qs 10 (qi 0)]) (.seq (.seq (.region [qm 33 8]) (.block 2 (.range (.t 33) [34] OD Ol))) (.seq (.region [ql 56 9,qn 57 .eql (.t 56) (qi 0),qm 58 57,qg 59 (.load 1 false (.t 10)) 58 true,qg 60 (.load 1 false (.t 7)) 58 true,qg 61 (.len 0 (.t 60)) 58 true,qg 62 (.load 1 false (.t 3)) 58 true,qg 63 (.mm true (qi 1) (.t 62)) 58 true,qg 64 (.mm false (.t 61) (.t 63)) 58 true,qg 65 (.bin .neq .num (.t 59) (.t 64)) 58 true,qk 66 58 (.t 65) qz,qm 67 66,qg 68 (.load 1 false (.t 9)) 67 false,qg 69 (.bin .eql .num (.t 68) (qi 1)) 67 false,qg 70 (.mv (.t 69)) 67 false,qg 71 (.load 1 false (.t 10)) 70 true,qg 72 (.load 1 false (.t 7)) 70 true,qg 73 (.len 0 (.t 72)) 70 true,qg 74 (.bin .neq .num (.t 71) (.t 73)) 70 true,qg 75 (.pick (.t 70) (.t 74) qz) 67 false,qk 76 67 qt (.t 75)]) (.cond (.t 76) (.seq (.region [qs 4 qz]) .ret) .skip))))) (.seq (.seq (.region [ql 77 9]) (.region [qo 9 (.alloc [(.int .i64 0)]),qs 9 (.t 77)])) (.region [ql 31 9,qn 32 .add (.t 31) (qi 1),qs 9 (.t 32)]))))
def OV:aH:=(.region [qo 4 (.alloc [(.int .i64 0),(.int .i64 0)]),qe (.store 2 (.t 4) (.t 7))])
def OY:aH:=(.block 1 (.seq (.seq (.region [qf 8 0 4,ql 9 8,ql 10 3,qn 11 .gtr (.t 9) (.t 10),qm 12 11,qg 13 (.load 1 false (.t 2)) 12 true,qg 14 (.load 1 false (.t 3)) 12 true,qg 15 (.fld 0 (.t 4)) 12 true,qg 16 (.load 1 false (.t 15)) 12 true,qg 17 (.load 1 false (.t 3)) 12 true,qg 18 (.bin .sub .num (.t 16) (.t 17)) 12 true,qg 19 (.build [(.int .i64 0),(.int .i64 0)] [(0,(1,(.t 14))),(1,(1,(.t 18)))]) 12 true,qg 20 (.cf (.t 13) [(.t 19)]) 12 true,qg 21 (.un .not (.t 20)) 12 true,qk 22 12 (.t 21) qz]) (.cond (.t 22) .ret .skip)) (.region [qf 23 0 4,ql 24 23,qf 25 1 4,ql 26 25,qn 27 .add (.t 24) (.t 26),qs 3 (.t 27)])))
theorem ja (p:Nat->Bool) (N:Int):∀(f k:Nat) (r:Rn),((k+f:Nat):Int)<=N->(r.m=0∨0<=r.a/\0<r.m/\r.a+r.m<=k)->∀x∈eL p r k f,0<=x.a/\0<x.m/\x.a+x.m<=N
 | 0,k,r,hN,hr,x,hx=>by
   rw[eL]at hx;split at hx
   . cases hx
   . rename_i h
     rcases hr with hr|hr
     . exact absurd hr h
     . rw[List.mem_singleton.1 hx];omega
 | f+1,k,r,hN,hr,x,hx=>by
   rw[eL]at hx;split at hx
   . split at hx
     . exact ja p N f (k+1) _ (by omega) (.inr (by simp only;omega)) x hx
     . rename_i h;exact ja p N f (k+1) _ (by omega) (.inr (by simp only;omega)) x hx
   . split at hx
     . exact ja p N f (k+1) _ (by omega) (.inl rfl) x hx
     . rename_i h
       rcases List.mem_cons.1 hx with e|hx
       . subst e
         rcases hr with hr|hr
         . exact absurd hr h
         . omega
       . exact ja p N f (k+1) _ (by omega) (.inl rfl) x hx
theorem Ee (mo:Nat) (H:ab):(cbL bP).ic 49 [.ptr mo 0] H=some (.ret (.fn 80 [.ptr H.length 0]),H++[.cells [.ptr mo 0]]):=by
 have:=eg (tab:=bP) (f:=49) (fi:=c49) (args:=[.ptr mo 0]) (H:=H) (P:=fun o G=>o= .ret (.fn 80 [.ptr H.length 0])/\G=H++[.cells [.ptr mo 0]]) rfl rfl (by simp[c49]) (by decide) ?_
 . obtain⟨o,G,e1,rfl,rfl⟩:=this;exact e1
 unfold c49;simp(disch:=omega)only[wk,ae,↓reduceIte,reduceEqDiff,reduceEq,reduceAdd,reduceCtorEq]
structure GaS (b yid mo:Nat) (e:Int) (lo:av) (G:ab):Prop where
 y:G[b]? =some (.cells [.yld yid])
 e:G[b+1]? =some (.cells [.int .i64 e])
 m:G[b+2]? =some (.cells [.ptr mo 0])
 d:G[b+3]? =some .gA
 l:G[b+4]? =some lo
theorem GaS.of {b yid mo:Nat} {e:Int} {lo:av} {G G':ab} (h:GaS b yid mo e lo G) (hi:∀i,i<b+5->G'[i]? =G[i]?):GaS b yid mo e lo G':=
 ⟨(hi _ (by omega)).trans h.y,(hi _ (by omega)).trans h.e,(hi _ (by omega)).trans h.m,(hi _ (by omega)).trans h.d,(hi _ (by omega)).trans h.l⟩
theorem Ha {G:ab} {v:AV} {l:List Int} (h:Own G 1 v l.length (ah aD l)) (hne:∀s n c,v≠ .sl s n c .e) (e:Int):aB (some (.ret (.tup [v,.int .i64 e]),G))=some (.plain (.tup [fB 1 aD l,.int .i64 e])):=by
 have hh:=fN l
 rcases h with⟨h1,h2,h3⟩|⟨h0,g,rfl,hg⟩
 . have:l=[]:=List.length_eq_zero_iff.1 h2;subst this
   rcases h1 with rfl|rfl
   . rfl
   . exact absurd rfl (hne _ _ _)
 . have e0:l.isEmpty=false:=by cases l<;>simp at h0 ⊢
   unfold fB;rw[e0];show(if(AV.tup [aC (.sl 1 l.length (ah aD l) (.own g)),aC (.int .i64 e)]).hf=true then _ else none)=_
   rw[if_pos]
   . rfl
   . show hfL [.sl 1 l.length (ah aD l) .ro,.int .i64 e]=true
     simp[hfL,AV.hf,hh,Tk.hf]
theorem II {xo yo:X} {id off n:Nat}:bE .eql .slice xo yo (.msl 1 id off n) (.sl 0 0 [] .z)=some (.bool false):=rfl
theorem CN {G:ab} {mo id n:Nat} {many:Int} {p:Nat->Bool} (B:BM G mo id n many p):(cbL tab).ic 82 [.msl 1 id 0 n] G=some (.ret (.sl 1 n (ah aD (wL p n)) (.own G.length)),G++[.tok 1]):=by
 obtain⟨m,w,lo,hi,few⟩:=B;have:=eg (tab:=tab) (f:=82) (fi:=c82) (args:=[.msl 1 id 0 n]) (H:=G) (P:=fun o G'=>o= .ret (.sl 1 n (ah aD (wL p n)) (.own G.length))/\G'=G++[.tok 1]) rfl rfl (by simp[c82]) (by decide) ?_
 . obtain⟨o,G',e1,rfl,rfl⟩:=this;exact e1
 have ln:(ah aD (wL p n)).length=n:=by rw[jT,dG]
 have n0:n≠0:=by omega
 have rm:rowOf G (.msl 1 id 0 n)= .sl 1 n (ah aD (wL p n)) .ro:=by
   rw[Bs w (by omega) n0,List.drop_zero,Nat.mul_one,List.take_of_length_le (by omega)]
 have ap:eW 1 8 (.sl 1 0 [] .e) (.sl 1 n (ah aD (wL p n)) .ro) G=some (.val (.sl 1 n (ah aD (wL p n)) (.own G.length)),G++[.tok 1]):=by
   have ht:(ah aD (wL p n)).take (n*1)=ah aD (wL p n):=List.take_of_length_le (by omega)
   have h1:n*8<=70368744177664:=by omega
   have h2:n<=70368744177664:=by omega
   have h3:n*1<=(ah aD (wL p n)).length:=by omega
   rw[Nat.mul_one]at ht;simp[eW,ht,n0,h1,h2,jd,ln]
 unfold c82;simp(disch:=omega)only[wk,ae,↓reduceIte,reduceEqDiff,reduceEq,reduceAdd,reduceCtorEq,II,rm,ap]
theorem Jf (id n:Nat) (H:ab):pcx (cbL tab) 82 [.msl 1 id 0 n] H=none:=bH rfl (bW (fi:=c82) rfl rfl)
theorem BJ {G:ab} {mo id n:Nat} {many:Int} {p:Nat->Bool} (B:BM G mo id n many p):(cbL tab).ic 51 [.ptr mo 0] G=some (.ret (.sl 1 n (ah aD (wL p n)) (.own G.length)),G++[.tok 1]):=by
 have cl:=CN B;have n0:=tV B;obtain⟨m,w,lo,hi,few⟩:=B;have:=eg (tab:=tab) (f:=51) (fi:=c51) (args:=[.ptr mo 0]) (H:=G) (P:=fun o G'=>o= .ret (.sl 1 n (ah aD (wL p n)) (.own G.length))/\G'=G++[.tok 1]) rfl rfl (by simp[c51]) (by decide) ?_
 . obtain⟨o,G',e1,rfl,rfl⟩:=this;exact e1
 have l1:(cbL tab).cy 75=false:=rfl;have l2:(cbL tab).cy 82=false:=rfl;unfold c51;simp(disch:=omega)only[wk,ae,↓reduceIte,reduceEqDiff,reduceEq,reduceAdd,reduceCtorEq,m,Ew,Jf,aO l1,aO l2,n0,cl]
def qW:aH:=(.region [qo 8 (.alloc [(.int .i64 0),(.int .i64 0)]),qe (.store 2 (.t 8) (.t 23))])
def ru:aH:=(.block 1 (.region [ql 24 6,qf 25 0 8,ql 26 25,qf 27 1 8,ql 28 27,qc 29 50 [(.t 24),(.t 26),(.t 28)]]))
theorem Fo {b:Nat} {S:List Rn} {H0:ab} {tm:List AV} {E:Env} (ha:Ag 32 tm E) (E6:E 6= .ptr 4 0) (h5:5<b) (bd:∀x∈S,0<=x.a/\0<x.m/\x.a+x.m<=4096) (g4:H0[4]? =some (.cells [.ptr 3 0])) (gl:H0[b+1]? =some (.loop 0 .normal tm [23] qW ru)):
   Kk (b+1) (b+2) S (fun pre G=>BM G 3 2 64 4096 (mX pre)/\∀i,i<b+2->i≠2->G[i]? =H0[i]?) (fun _=>False):=by
 intro pre x post G hS ⟨B,hG⟩ hl;obtain⟨x1,x2,x3⟩:=bd x (by rw[hS];simp)
 obtain⟨P,hP⟩:∃P:Bool->ab->Prop,P=fun c G'=>G.length<=G'.length/\(∀i,b+2<=i->i<G.length->G'[i]? =G[i]?)/\if c=true then(BM G' 3 2 64 4096 (mX (pre++[x]))/\∀i,i<b+2->i≠2->G'[i]? =H0[i]?)else False:=⟨_,rfl⟩
 have lo:=(hG (b+1) (by omega) (by omega)).trans gl;have key:=Kz (tab:=bP) (id:=b+1) (P:=P) (args:=[.agg (rnA x)]) (H:=G) (cW lo) ha rfl (by decide) (by decide) (by decide) (by decide) (by decide) ?_
 . rw[hP]at key;exact key
 have ex:rnA x=[.int .i64 x.a,.int .i64 x.m]:=rfl
 have g0:∀L:List av,(G++L)[G.length]? =L[0]? :=fun L=>by rw[List.getElem?_append_right (Nat.le_refl _),Nat.sub_self]
 have t0:∀(L:List av) (o:av),(G++L).set G.length o=G++L.set 0 o:=fun L o=>by rw[List.set_append_right _ _ (Nat.le_refl _),Nat.sub_self]
 have gk:∀i,i<G.length->∀L:List av,(G++L)[i]? =G[i]? :=fun i hi L=>List.getElem?_append_left hi
 unfold qW;rw[ex];simp(disch:=omega)only[wk,ae,↓reduceIte,reduceEqDiff,reduceEq,reduceAdd,reduceCtorEq,qI,sH,g0,t0];refine⟨rfl,rfl,_,_,_,_,_,cW (by rw[gk _ (by omega)];exact lo), ?_⟩;obtain⟨G1,hG1⟩:∃G1,G1=(G++[av.cells [.int .i64 x.a,.int .i64 x.m]]).set (b+1) (.loop 1 .normal tm [23] qW ru):=⟨_,rfl⟩;rw[<-hG1]
 have l1:G1.length=G.length+1:=by rw[hG1];simp
 have k1:∀i,i<G.length->i≠b+1->G1[i]? =G[i]? :=fun i h1 h2=>by rw[hG1,List.getElem?_set_ne (Ne.symm h2),gk _ h1]
 have c1:G1[G.length]? =some (.cells [.int .i64 x.a,.int .i64 x.m]):=by rw[hG1,List.getElem?_set_ne (by omega),g0];rfl
 have lo1:G1[b+1]? =some (.loop 1 .normal tm [23] qW ru):=by rw[hG1,List.getElem?_set_self (by simp;omega)]
 have m4:=(k1 4 (by omega) (by omega)).trans ((hG 4 (by omega) (by omega)).trans g4);obtain⟨m,w,q1,q2,q3⟩:=B;have B1:BM G1 3 2 64 4096 (mX pre):=⟨(k1 3 (by omega) (by omega)).trans m,(k1 2 (by omega) (by omega)).trans w,q1,q2,q3⟩;obtain⟨a,hxa⟩:=Int.eq_ofNat_of_zero_le x1;obtain⟨c,hxc⟩:=Int.eq_ofNat_of_zero_le (show 0<=x.m by omega);obtain⟨G2,s1,s2,s3,s4⟩:=tI B1 (a:=a) (c:=c) (by omega);have s1:=CS s1;rw[<-hxa,<-hxc]at s1
 have ps:∀(v:Nat) (a c:AV) (H:ab),pcx (cbL bP) 50 [.ptr v 0,a,c] H=none:=fun v a c H=>bH rfl (bW (fi:=c50) rfl rfl)
 have ll:(cbL bP).cy 50=false:=rfl;unfold ru;simp(disch:=omega)only[wk,ae,↓reduceIte,reduceEqDiff,reduceEq,reduceAdd,reduceCtorEq,E6,m4,c1,ps,aO ll,s1];have lo2:=(s4 (b+1) (by omega) (by omega)).trans lo1;refine⟨rfl,1,.normal,tm,[23],qW,ru,cW lo2, ?_⟩;rw[hP];refine⟨by simp;omega,fun i h5 h6=> ?_, ?_⟩
 . rw[List.getElem?_set_ne (by omega),s4 i (by omega) (by omega),k1 i h6 (by omega)]
 rw[if_pos rfl];refine⟨?_,fun i hi hn=> ?_⟩
 . have B3:=BM.congr s2 (q:=mX (pre++[x])) fun i=>by
     rw[F8];congr 1;rw[decide_eq_decide];omega
   obtain⟨r1,r2,r3,r4,r5⟩:=B3;exact⟨by rw[List.getElem?_set_ne (by omega)];exact r1,by rw[List.getElem?_set_ne (by omega)];exact r2,r3,r4,r5⟩
 . by_cases e:i=b+1
   . subst e;rw[List.getElem?_set_self (by omega),gl]
   . rw[List.getElem?_set_ne (by omega),s4 i (by omega) hn,k1 i (by omega) e,hG i hi hn]
theorem A9 {f:Frm} {rt:Tv} {ns bl rl:List Int} {bv rv:AV} (I:Img f rt ns bl rl bv rv) (H:ab):
   pcx (cbL bP) 18 [.agg (bT f (mkT rt ns) bv rv)] H=some (.plain (if okI f bl rl then .tup [fB 1 aD (wL (pB f bl) 64),.int .i64 0] else .tup [.sl 0 0 [] .z,.int .i64 2])):=by
 have so:=fun H=>Lw I H
 have hon:bF c18 [.agg (bT f (mkT rt ns) bv rv)]=true:=by
   simp only[bF,List.map_cons,List.map_nil,I.aC,c18];exact I.hf
 have o1:=I.b.one;have o2:=I.r.one;have li:=I.aC;have hf:=I.fo;unfold okF at hf;have b64:=I.b64;refine aS rfl (bc (fi:=c18) rfl hon (by simp[c18]) (by decide) ?_);unfold c18;rw[List.map_cons,List.map_nil,li]
 cases ok:okI f bl rl with
 | false=>
   simp only[Bool.false_eq_true,if_false];rw[ok]at so;simp only[Bool.false_eq_true,if_false]at so;clear hon li I;generalize mkT rt ns=T at*;unfold bT z13 at*;simp(disch:=omega)only[wk,ae,↓reduceIte,reduceEqDiff,reduceEq,reduceAdd,reduceCtorEq,so,o1,o2];rfl
 | true=>
   simp only[if_true];rw[ok]at so;simp only[if_true]at so;obtain⟨C,hC⟩:∃C:List av,C=[.cells (bT f (mkT rt ns) bv rv),.cells (bT f (mkT rt ns) bv rv)]:=⟨_,rfl⟩;obtain⟨G1,n1,n2,n3⟩:=FO (H:=C) (k:=4096) (by decide) (by decide);have n1:=CS n1
   have hCl:C.length=2:=by rw[hC];rfl
   rw[hCl]at n1 n3
   match G1,n2 with
   |[x1,x2],_=>
   have x1e:x1= .cells (ah aD (wL (fun _=>false) 64)):=by
     have:=n3.w;rw[hC]at this;simpa using this
   have x2e:x2= .cells [.msl 1 2 0 64,.int .i64 4096]:=by
     have:=n3.m;rw[hC]at this;simpa using this
   subst x1e x2e;have n1:(cbL bP).ic 48 [.int .i64 4096] C=some (.ret (.tup [.ptr 3 0,.int .i64 0]),C++[.cells (ah aD (wL (fun _=>false) 64)),.cells [.msl 1 2 0 64,.int .i64 4096]]):=n1;obtain⟨C2,hC2⟩:∃C2:List av,C2=C++[.cells (ah aD (wL (fun _=>false) 64)),.cells [.msl 1 2 0 64,.int .i64 4096],.cells [.ptr 3 0]]:=⟨_,rfl⟩
   have hC2l:C2.length=5:=by rw[hC2,hC];rfl
   obtain⟨mo,id,G,b1,b2,b3,b4,b5⟩:=I7 I ok C2;have b1:=CS b1;rw[hC2l]at b3 b4 b5;have rm:=lq ((Bool.and_eq_true _ _).mp (show(gp (9+f.i/4+f.r/4+1) f.b none bl&&gp 1 (f.r+1) none rl)=true from ok)).1
   have hr:∀x∈bl,dF f<=x/\x<f.b:=fun x hx=>by have:=rm.1 x hx;unfold dF;omega
   obtain⟨m,hm⟩:=Int.eq_ofNat_of_zero_le (show 0<=f.b by omega);rw[hm]at b2
   have e2:∀o,C2[2]? =o->G[2]? =o:=fun o h=>(b5 2 (by decide)).trans h
   have B0:BM G 3 2 64 4096 (mX []):=⟨(b5 3 (by decide)).trans (by rw[hC2,hC];rfl),(b5 2 (by decide)).trans (by rw[hC2,hC];rfl),by decide,by decide,by decide⟩;have g4:G[4]? =some (.cells [.ptr 3 0]):=(b5 4 (by decide)).trans (by rw[hC2,hC];rfl);have lG:4<G.length:=(List.getElem?_eq_some_iff.1 g4).1
   have pn:∀(a:AV) (H:ab),pcx (cbL bP) 48 [a] H=none:=fun a H=>bH rfl (bW (fi:=c48) rfl rfl)
   have pb:∀(v:AV) (H:ab),pcx (cbL bP) 40 [v] H=none:=fun v H=>bH rfl (bW (fi:=c40) rfl rfl)
   have pr:∀(v:Nat) (H:ab),pcx (cbL bP) 49 [.ptr v 0] H=none:=fun v H=>bH rfl (bW (fi:=c49) rfl rfl)
   have pw:∀(v:Nat) (H:ab),pcx (cbL bP) 51 [.ptr v 0] H=none:=fun v H=>bH rfl (bW (fi:=c51) rfl rfl)
   have l1:(cbL bP).cy 48=false:=rfl;have l2:(cbL bP).cy 40=false:=rfl;have l3:(cbL bP).cy 49=false:=rfl;have l4:(cbL bP).cy 51=false:=rfl
   have bd:∀x∈eL (pB f bl) ⟨0,0⟩ 0 m,0<=x.a/\0<x.m/\x.a+x.m<=4096:=fun x hx=>by
     have:=ja (pB f bl) m m 0 ⟨0,0⟩ (by omega) (.inl rfl) x hx;omega
   have cv:wL (mX (eL (pB f bl) ⟨0,0⟩ 0 m)) 64=wL (pB f bl) 64:=mH fun i _=>by
     rw[lY (pB f bl) i m 0 ⟨0,0⟩ (.inl rfl),decide_eq_false (show¬((0:Int)<=(i:Int)/\(i:Int)<0+0)by omega),Bool.false_or];by_cases h:i<m
     . rw[decide_eq_true (by omega),Bool.true_and]
     . rw[decide_eq_false (by omega),Bool.false_and];unfold pB
       rw[decide_eq_false (by unfold dF;omega),decide_eq_false fun h=>by have:=hr _ h;omega];rfl
   obtain⟨S,hS⟩:∃S,S=eL (pB f bl) ⟨0,0⟩ 0 m:=⟨_,rfl⟩;rw[<-hS]at bd cv;clear hon li I;generalize mkT rt ns=T at*;have im:bT f T bv rv=[.int .i64 f.b,.int .i64 f.i,.int .i64 f.r,.int .i64 f.t,.int .u64 5,.int .u64 6,.int .i64 9,.int .i64 (9+f.i/4),.int .i64 (9+f.i/4+f.r/4),.int .i64 (dF f),.sl 7 T.length (ah tvC T) .ro,bv,rv]:=rfl;rw[hC]at n1 hC2;rw[hC2]at b1;rw[im]at so b1 n1 ⊢;obtain⟨Z,hZ⟩:∃Z,Z=ah aD (wL (fun _=>false) 64):=⟨_,rfl⟩;rw[<-hZ]at n1 b1;simp only[List.cons_append,List.nil_append]at n1 b1;simp(disch:=omega)only[wk,ae,↓reduceIte,reduceEqDiff,reduceEq,reduceAdd,reduceCtorEq,so,o1,o2,pn,aO l1,n1,pb,aO l2,b1,pr,aO l3,Ee];obtain⟨H1,hH1⟩:∃H1,H1=G++[av.cells [.ptr mo 0]]:=⟨_,rfl⟩;rw[<-hH1]
   have l5:H1.length=G.length+1:=by rw[hH1];simp
   refine sS («as» :=qW) (bd:=ru) (f:=80) (caps:=[.ptr G.length 0]) (by simp only[en,↓reduceIte,reduceEqDiff,AR]) (fun tm ha=> ?_);rw[l5];obtain⟨H0,hH0⟩:∃H0,H0=H1++[av.gA,.loop 0 .normal tm [23] qW ru]:=⟨_,rfl⟩;rw[<-hH0]
   have l0:H0.length=G.length+3:=by rw[hH0];simp[l5]
   have ap:∀i,i<G.length->H0[i]? =G[i]? :=fun i hi=>by rw[hH0,hH1,List.append_assoc,List.getElem?_append_left hi]
   have aq:∀i,H0[G.length+i]? =[av.cells [.ptr mo 0],.gA,.loop 0 .normal tm [23] qW ru][i]? :=fun i=>by rw[hH0,hH1,List.append_assoc,List.getElem?_append_right (by omega),Nat.add_sub_cancel_left];rfl
   have rd:=Fo (b:=G.length+1) (S:=S) (H0:=H0) ha (by simp only[en,↓reduceIte,reduceEqDiff]) (by omega) bd ((ap 4 lG).trans g4) (aq 2);rw[hS]at rd
   obtain⟨H2,hic,hJD⟩:=CD (n:=1) (p:=pB f bl) (mo:=mo) (id:=id) (vb:=G.length) (H:=H0) _ _ (by omega)
     (fun pre G' ⟨_,h⟩=>⟨(h _ (by omega) (by omega)).trans (aq 0),by
       have q1:=(List.getElem?_eq_some_iff.1 b2.m).1;have q2:=(List.getElem?_eq_some_iff.1 b2.w).1
       exact⟨(h _ (by omega) (by omega)).trans ((ap _ q1).trans b2.m),(h _ (by omega) (by omega)).trans ((ap _ q2).trans b2.w),b2.lo,b2.hi,b2.few⟩⟩)
     (fun pre G' G'' ⟨B,h⟩ hi=>⟨⟨(hi 3 (by omega)).trans B.m,(hi 2 (by omega)).trans B.w,B.lo,B.hi,B.few⟩,fun i h1 h2=>(hi i (by omega)).trans (h i h1 h2)⟩) (fun _ _ h _=>h) rd
     ⟨⟨(ap 3 (by omega)).trans B0.m,(ap 2 (by omega)).trans B0.w,B0.lo,B0.hi,B0.few⟩,fun _ _ _=>rfl⟩
   obtain⟨B2,j2⟩:=hJD.resolve_right _root_.id;rw[<-hS]at B2;have lo:=(j2 (G.length+2) (by omega) (by omega)).trans (aq 2);refine⟨_,H2,0,.normal,tm,[23],qW,ru,hic,cW lo,by decide,rfl, ?_⟩;obtain⟨H3,hH3⟩:∃H3,H3=H2.set (G.length+1+1) (.loop 3 .normal tm [23] qW ru):=⟨_,rfl⟩;rw[<-hH3]
   have s0:∀i,i<G.length+2->H3[i]? =H2[i]? :=fun i h=>by rw[hH3,List.getElem?_set_ne (by omega)]
   have B3:BM H3 3 2 64 4096 (mX S):=⟨(s0 3 (by omega)).trans B2.m,(s0 2 (by omega)).trans B2.w,B2.lo,B2.hi,B2.few⟩;have wd:=CS (BJ B3);rw[cv]at wd;have m4:=(s0 4 (by omega)).trans ((j2 4 (by omega) (by omega)).trans ((ap 4 lG).trans g4))
   have d4:(H3++[av.tok 1])[G.length+1]? =some .gA:=by
     have:=(s0 (G.length+1) (by omega)).trans ((j2 _ (by omega) (by omega)).trans (aq 1))
     rw[List.getElem?_append_left (List.getElem?_eq_some_iff.1 this).1];exact this
   simp(disch:=omega)only[wk,ae,↓reduceIte,reduceEqDiff,reduceEq,reduceAdd,reduceCtorEq,m4,pw,aO l4,wd];rw[sQ d4];simp(disch:=omega)only[wk,ae,↓reduceIte,reduceEqDiff,reduceEq,reduceAdd,reduceCtorEq]
   have ow:Own ((H3++[av.tok 1]).set (G.length+1) .dead) 1 (.sl 1 64 (ah aD (wL (pB f bl) 64)) (.own H3.length)) (wL (pB f bl) 64).length (ah aD (wL (pB f bl) 64)):=by
     rw[dG]
     exact Own.set (.inr ⟨by decide,_,rfl,by simp⟩) d4 fun s e=>by cases e
   exact Ha ow (fun s n c e=>by cases e) 0
theorem ug {cb:CB} {H:ab} {f:FuncId} {args args':List AV} {v:AV} (hl:cb.cy f=true) (hid:args.map (bw H 4)=args') (h:cb.pc f args'=some (.iw v)):pcx cb f args H=some (.plain v):=by
 unfold pcx;rw[if_pos hl,kS,hid,h]
theorem Hl (p:Nat->Bool) {j:Nat}:∀n,j<n->p j=false->wN p n+2^j=wN (fun i=>p i||decide (i=j)) n
 | n+1,h,hj=>by
   rw[wN,wN];by_cases e:j=n
   . subst e
     have:=iS (p:=p) (q:=fun i=>p i||decide (i=j)) j fun i hi=>by rw[decide_eq_false (by omega),Bool.or_false]
     rw[hj,<-this];simp
   . have:=Hl p n (by omega) hj
     have e2:(p n||decide (n=j))=p n:=by rw[decide_eq_false (fun h=>e h.symm),Bool.or_false]
     rw[e2,<-this];omega
theorem z5 (l:List Int):(ah aD l).all (·.iZ)=true:=by
 induction l with
 |nil=>rfl
 |cons x r ih=>rw[aL,List.all_append,ih];rfl
theorem BP (q:Nat->Bool) {N:Nat} (hN:N=4096) (tk:Tk) (htk:tk.hf=true):(cbL tab).pc 83 [.sl 1 N (bL q N) tk]=some (.iw (.sl 1 64 (ah aD (wL q 64)) .ro)):=by
 obtain⟨u,e1,f1⟩:=dc 1 N (bL q N) tk;refine uQ (fi:=c83) rfl ?_ (by simp[c83]) (by decide) ?_
 . simp only[bF,List.map_cons,List.map_nil,e1,c83,hfL,AV.hf,f1,NG,Bool.and_self]
 unfold c83;rw[List.map_cons,List.map_nil,e1]
 have w1:IntKind.i64.wrap ((N:Int)+63)=(4159:Int):=by rw[wrap_i64 (by omega) (by omega)];omega
 have w2:IntKind.i64.wrap 64=64:=rfl
 have d2:(4159:Int)/64=64:=by decide
 have md:eo 1 8 [.int .u64 0] (.int .i64 64) (.int .i64 64)=some 64:=rfl;have r0:=Bw 64
 have lw:∀p:Nat->Bool,(ah aD (wL p 64)).length=64:=fun p=>by rw[jT,dG]
 simp(disch:=omega)only[wk,ae,↓reduceIte,reduceEqDiff,reduceEq,reduceAdd,reduceCtorEq,w1,w2,d2,md,r0]
 refine aR (fun(k:Nat) E df G=>k<=N/\E 0= .sl 1 N (bL q N) u/\E 3= .msl 1 0 0 64/\E 4= .int .i64 (k:Int)/\df=[]/\G=[.cells (ah aD (wL (fun i=>q i&&decide (i<k)) 64))])
   (fun k=>N-k) 0 (by decide) (.inl rfl) ⟨Nat.zero_le _,by simp only[en,↓reduceIte,reduceEqDiff],by simp only[en,↓reduceIte,reduceEqDiff],by simp only[en,↓reduceIte,reduceEqDiff];rfl,rfl, ?_⟩ ?_
 . have:wL (fun i=>q i&&decide (i<0)) 64=wL (fun _=>false) 64:=mH fun i _=>by rw[decide_eq_false (by omega),Bool.and_false]
   rw[this]
 intro k E df G ih hP;obtain⟨hk,E0,E3,E4,hdf,hG⟩:=hP;subst hdf hG;by_cases hkn:k<N
 . have n1:(k:Int)<(N:Int):=by omega
   have bg:(List.drop k (bL q N))[0]? =some (.bool (q k)):=by rw[List.getElem?_drop,Nat.add_zero];exact y9 q hkn
   have e2:∀b:Bool,q k=b->wL (fun i=>q i&&decide (i<k+1)) 64=wL (fun i=>(q i&&decide (i<k))||(b&&decide (i=k))) 64:=fun b hb=>mH fun i _=>by
     by_cases e:i=k
     . subst e;rw[hb,decide_eq_true (show i<i+1 by omega),decide_eq_false (show¬i<i by omega),decide_eq_true rfl];cases b<;>rfl
     . rw[decide_eq_false e,Bool.and_false,Bool.or_false];congr 1
       rw[decide_eq_decide];omega
   cases hq:q k with
   | false=>
     rw[hq]at bg;simp(disch:=omega)only[wk,ae,↓reduceIte,reduceEqDiff,reduceEq,reduceAdd,reduceCtorEq,E0,E3,E4,n1,bg];exact ih (k+1) _ _ _ (by omega) ⟨hkn,by simp only[en,↓reduceIte,reduceEqDiff,E0],by simp only[en,↓reduceIte,reduceEqDiff,E3],by simp only[en,↓reduceIte,reduceEqDiff],rfl,by rw[e2 false hq];simp⟩
   | true=>
     rw[hq]at bg
     have kd:k/64<64:=by omega
     have km:k % 64<64:=by omega
     have g1:=Ac (fun i=>q i&&decide (i<k)) kd;have w3:IntKind.i64.wrap ((k/64:Nat):Int)=((k/64:Nat):Int):=wrap_i64 (by omega) (by omega)
     have po:=fun H=>pe km H
     have ad:=Hl (fun j=>q (64*(k/64)+j)&&decide (64*(k/64)+j<k)) (j:=k % 64) 64 km (by
       show(q (64*(k/64)+k % 64)&&decide (64*(k/64)+k % 64<k))=false
       rw[decide_eq_false (by omega),Bool.and_false])
     have lt:=IW (fun j=>(q (64*(k/64)+j)&&decide (64*(k/64)+j<k))||decide (j=k % 64))
     have w4:IntKind.u64.wrap (((wN (fun j=>q (64*(k/64)+j)&&decide (64*(k/64)+j<k)) 64:Nat):Int)+((2^(k % 64):Nat):Int))=((wN (fun j=>(q (64*(k/64)+j)&&decide (64*(k/64)+j<k))||decide (j=k % 64)) 64:Nat):Int):=by
       rw[<-ad]at lt ⊢
       rw[wrap_u64 (by omega) (by omega)];omega
     have sc:=HZ (wL (fun i=>q i&&decide (i<k)) 64) (k/64) ((wN (fun j=>(q (64*(k/64)+j)&&decide (64*(k/64)+j<k))||decide (j=k % 64)) 64:Nat):Int) (by rw[dG];omega);rw[Gj (fun i=>q i&&decide (i<k)) kd]at sc
     have kn:k/64+1<=64:=by omega
     simp(disch:=omega)only[wk,ae,↓reduceIte,reduceEqDiff,reduceEq,reduceAdd,reduceCtorEq,E0,E3,E4,n1,bg,td,tm,w3,Nat.zero_add,g1,po,w4,lw,kn,sc];exact ih (k+1) _ _ _ (by omega) ⟨hkn,by simp only[en,↓reduceIte,reduceEqDiff,E0],by simp only[en,↓reduceIte,reduceEqDiff,E3],by simp only[en,↓reduceIte,reduceEqDiff],rfl,by rw[e2 true hq];simp⟩
 . have e:k=N:=by omega
   subst e
   have n1:¬(k:Int)<(k:Int):=by omega
   have ee:wL (fun i=>q i&&decide (i<k)) 64=wL q 64:=mH fun i hi=>by rw[decide_eq_true (by omega),Bool.and_true]
   rw[ee]
   have nw:qE [.cells (ah aD (wL q 64))] (.msl 1 0 0 64)=some (.sl 1 64 (ah aD (wL q 64)) .ro):=by
     have ht:(ah aD (wL q 64)).take 64=ah aD (wL q 64):=List.take_of_length_le (by rw[lw];exact Nat.le_refl _);simp[qE,lw,ht,z5]
   have nv:CC [.cells (ah aD (wL q 64))] (.msl 1 0 0 64)=some (.sl 1 64 (ah aD (wL q 64)) .ro):=nw;simp(disch:=omega)only[wk,ae,↓reduceIte,reduceEqDiff,reduceEq,reduceAdd,reduceCtorEq,E0,E3,E4,n1,pP,nv]
theorem Ju {G:ab} {id N:Nat} {q:Nat->Bool} (hg:G[id]? =some (.cells (bL q N))):bw G 4 (.msl 1 id 0 N)= .sl 1 N (bL q N) .ro:=by
 show(match G[id]? with|some (.cells cs)=>if 0+N*1<=cs.length then AV.sl 1 N (((cs.drop 0).take (N*1)).map (bw G 3)) .ro else .msl 1 id 0 N|_=> .msl 1 id 0 N)=_
 rw[hg];simp only[kC];rw[if_pos (by omega),List.drop_zero,List.take_of_length_le (by rw[kC];omega)]
 have:(bL q N).map (bw G 3)=bL q N:=by
   unfold bL;rw[List.map_map];rfl
 rw[this]
def qS (f:Frm):List AV:=[.int .i64 f.b,.int .i64 f.i,.int .i64 f.r,.int .i64 f.t,.int .u64 5,.int .u64 6,.int .i64 9,.int .i64 (9+f.i/4),.int .i64 (9+f.i/4+f.r/4),.int .i64 (dF f)]
theorem HJ {f:Frm} {bl:List Int} {v:AV} (hv:dP bl v) (hl:bl.length<=100000) (hd:0<=dF f/\dF f<=4096) (hb:∀x∈bl,0<=x/\x<4096) (H:ab):
   pcx (cbL tab) 52 [.agg (qS f),v] H=some (.plain (.sl 1 64 (ah aD (wL (pB f bl) 64)) .ro)):=by
 obtain⟨N,hN⟩:∃N:Nat,N=4096:=⟨_,rfl⟩;have ll:aC (.agg (qS f))= .agg (qS f):=rfl;have lv:=hv.aC;refine aS rfl (bc (fi:=c52) rfl ?_ (by simp[c52]) (by decide) ?_)
 . simp only[bF,List.map_cons,List.map_nil,ll,lv,c52];simp only[qS,hfL,AV.hf,hv.hf,Bool.and_self]
 unfold c52;rw[List.map_cons,List.map_cons,List.map_nil,ll,lv]
 have md:eo 1 1 [.bool false] (.int .i64 4096) (.int .i64 4096)=some N:=by rw[hN];rfl
 have r0:=OE N;obtain⟨s,tk,rfl,hs,htk⟩:=hv;unfold qS;simp(disch:=omega)only[wk,ae,↓reduceIte,reduceEqDiff,reduceEq,reduceAdd,reduceCtorEq,md,r0]
 refine aR (fun(k:Nat) E df G=>(k:Int)<=dF f/\E 1= .sl s bl.length (ah cA bl) tk/\E 2= .ptr 0 0/\E 5= .msl 1 1 0 N/\E 6= .int .i64 (k:Int)/\df=[]/\G=[.cells (qS f),.cells (bL (fun i=>decide (i<k)) N)])
   (fun k=>N-k) 0 (by decide) (.inl rfl) ⟨by omega,by simp only[en,↓reduceIte,reduceEqDiff],by simp only[en,↓reduceIte,reduceEqDiff],by simp only[en,↓reduceIte,reduceEqDiff],by simp only[en,↓reduceIte,reduceEqDiff];rfl,rfl, ?_⟩ ?_
 . have:bL (fun i=>decide (i<0)) N=bL (fun _=>false) N:=tR fun i _=>decide_eq_false (by omega)
   rw[this];rfl
 intro k E df G ih hP;obtain⟨hk,E1,E2,E5,E6,hdf,hG⟩:=hP;subst hdf hG;unfold qS;by_cases hkd:(k:Int)<dF f
 . have bs:=Gy (fun i=>decide (i<k)) (n:=N) (i:=k) (by omega);have lb:=kC (fun i=>decide (i<k)) N
   have kn:k+1<=N:=by omega
   have e:bL (fun j=>decide (j<k)||decide (j=k)) N=bL (fun i=>decide (i<k+1)) N:=tR fun i _=>by
     by_cases h:i=k
     . subst h;rw[decide_eq_true rfl,Bool.or_true,decide_eq_true (by omega)]
     . rw[decide_eq_false h,Bool.or_false,decide_eq_decide];omega
   rw[e]at bs
   have kN:(k:Int)<(N:Int):=by omega
   simp(disch:=omega)only[wk,ae,↓reduceIte,reduceEqDiff,reduceEq,reduceAdd,reduceCtorEq,E1,E2,E5,E6,hkd,kN,Nat.zero_add,lb,kn,bs];exact ih (k+1) _ _ _ (by omega) ⟨by omega,by simp only[en,↓reduceIte,reduceEqDiff,E1],by simp only[en,↓reduceIte,reduceEqDiff,E2],by simp only[en,↓reduceIte,reduceEqDiff,E5],by simp only[en,↓reduceIte,reduceEqDiff],rfl,rfl⟩
 . simp(disch:=omega)only[wk,ae,↓reduceIte,reduceEqDiff,reduceEq,reduceAdd,reduceCtorEq,E1,E2,E5,E6,hkd]
   refine aR (fun(x:List Int×List Int) E df G=>bl=x.1++x.2/\E 1= .sl s bl.length (ah cA bl) tk/\E 5= .msl 1 1 0 N/\E 7= .int .i64 (x.1.length:Int)/\df=[]/\G=[.cells (qS f),.cells (bL (fun i=>decide ((i:Int)<dF f)||decide ((i:Int)∈x.1)) N)])
     (fun x=>x.2.length) ([],bl) (by decide) (.inl rfl) ⟨rfl,by simp only[en,↓reduceIte,reduceEqDiff,E1],by simp only[en,↓reduceIte,reduceEqDiff,E5],by simp only[en,↓reduceIte,reduceEqDiff];rfl,rfl, ?_⟩ ?_
   . have:bL (fun i=>decide (i<k)) N=bL (fun i=>decide ((i:Int)<dF f)||decide ((i:Int)∈([]:List Int))) N:=tR fun i _=>by
       rw[decide_eq_false (show¬(i:Int)∈([]:List Int)by simp),Bool.or_false,decide_eq_decide];omega
     rw[this];rfl
   clear E1 E2 E5 E6;intro ⟨pre,suf⟩ E df G ih2 hP;obtain⟨a1,E1,E5,E7,hdf,hG⟩:=hP;dsimp only at a1 E7 hG;subst hdf hG
   have la:bl.length=pre.length+suf.length:=by rw[a1,List.length_append]
   cases suf with
   | nil=>
     have n1:¬(pre.length:Int)<(bl.length:Int):=by rw[la];simp
     have ep:pre=bl:=by rw[a1];simp
     have rw_:∀q:Nat->Bool,pcx (cbL tab) 83 [.msl 1 1 0 N] [.cells (qS f),.cells (bL q N)]=some (.plain (.sl 1 64 (ah aD (wL q 64)) .ro)):=fun q=>ug rfl (by rw[List.map_cons,List.map_nil,Ju rfl]) (BP q hN .ro rfl)
     have hq:(fun i:Nat=>decide ((i:Int)<dF f)||decide ((i:Int)∈pre))=pB f bl:=by rw[ep];rfl
     rw[hq];have hh:=fN (wL (pB f bl) 64);simp(disch:=omega)only[wk,ae,↓reduceIte,reduceEqDiff,reduceEq,reduceAdd,reduceCtorEq,E1,E5,E7,n1,rw_,aB,aI,aC,au,AV.hf,hfL,Tk.hf]
   | cons x r=>
     rw[List.length_cons]at la
     have n1:(pre.length:Int)<(bl.length:Int):=by omega
     obtain rfl:=hs (by rw[a1];simp);have d1:=mA pre x r;rw[<-a1]at d1;obtain⟨x1,x2⟩:=hb x (by rw[a1];simp);obtain⟨z,rfl⟩:=Int.eq_ofNat_of_zero_le x1;have bs:=Gy (fun i=>decide ((i:Int)<dF f)||decide ((i:Int)∈pre)) (n:=N) (i:=z) (by omega);have lb:=kC (fun i=>decide ((i:Int)<dF f)||decide ((i:Int)∈pre)) N
     have kn:z+1<=N:=by omega
     have kN:(z:Int)<(N:Int):=by omega
     have e:bL (fun j=>(decide ((j:Int)<dF f)||decide ((j:Int)∈pre))||decide (j=z)) N=bL (fun i=>decide ((i:Int)<dF f)||decide ((i:Int)∈pre++[(z:Int)])) N:=tR fun i _=>by
       rw[Bool.or_assoc];congr 1;by_cases h:(i:Int)∈pre
       . rw[decide_eq_true h,decide_eq_true (List.mem_append.2 (.inl h))];rfl
       . rw[decide_eq_false h,Bool.false_or];by_cases h2:i=z
         . rw[decide_eq_true h2,decide_eq_true (List.mem_append.2 (.inr (List.mem_singleton.2 (by omega))))]
         . rw[decide_eq_false h2,decide_eq_false fun hm=>(List.mem_append.1 hm).elim h fun hm=>h2 (by have:=List.mem_singleton.1 hm;omega)]
     rw[e]at bs;simp(disch:=omega)only[wk,ae,↓reduceIte,reduceEqDiff,reduceEq,reduceAdd,reduceCtorEq,E1,E5,E7,n1,d1,kN,Nat.zero_add,lb,kn,bs];exact ih2 (pre++[(z:Int)],r) _ _ _ (by simp) ⟨by simp[a1],by simp only[en,↓reduceIte,reduceEqDiff,E1],by simp only[en,↓reduceIte,reduceEqDiff,E5],by simp only[en,↓reduceIte,reduceEqDiff],rfl,rfl⟩
theorem Ar {f:Frm} {rt:Tv} {ns bl rl:List Int} {bv rv:AV} (I:Img f rt ns bl rl bv rv) (ok:okI f bl rl=true) (H:ab):pcx (cbL tab) 22 [.agg (bT f (mkT rt ns) bv rv)] H=some (.plain (.sl 1 64 (ah aD (wL (pB f bl) 64)) .ro)):=by
 have hon:bF c22 [.agg (bT f (mkT rt ns) bv rv)]=true:=by
   simp only[bF,List.map_cons,List.map_nil,I.aC,c22];exact I.hf
 have o1:=I.b.one;have o2:=I.r.one;have li:=I.aC;have hf:=I.fo;unfold okF at hf;have b64:=I.b64;have rm:=lq ((Bool.and_eq_true _ _).mp (show(gp (9+f.i/4+f.r/4+1) f.b none bl&&gp 1 (f.r+1) none rl)=true from ok)).1
 have mp:=fun H=>HJ (f:=f) I.b (by have:=I.lb;omega) (by unfold dF;omega) (fun x hx=>by have:=rm.1 x hx;omega) H
 refine aS rfl (bc (fi:=c22) rfl hon (by simp[c22]) (by decide) ?_);unfold c22;rw[List.map_cons,List.map_nil,li];have hh:=fN (wL (pB f bl) 64);clear hon li I;generalize mkT rt ns=T at*;unfold bT at*;unfold qS dF at mp;simp(disch:=omega)only[wk,ae,↓reduceIte,reduceEqDiff,reduceEq,reduceAdd,reduceCtorEq,o1,o2,mp,aB,aI,aC,au,AV.hf,hfL,Tk.hf,hh]
def gg (W:List Int):Nat->List Int->List (Int×Int)
 |_,[]=>[]
 |b,w::r=>if W[b]? =some w then gg W (b+1) r else((b:Int),w)::gg W (b+1) r
def stA (W:List Int) (p:Int×Int):List Int:=if 0<=p.1/\p.1<W.length then W.set p.1.toNat p.2 else W
def apW (W:List Int) (l:List (Int×Int)):List Int:=l.foldl stA W
theorem I0 (W:List Int) (p:Int×Int):(stA W p).length=W.length:=by
 unfold stA;split
 . rw[List.length_set]
 . rfl
theorem uh:∀(l:List (Int×Int)) (W:List Int),(apW W l).length=W.length
 |[],_=>rfl
 |p::l,W=>(uh l (stA W p)).trans (I0 W p)
theorem uP (W:List Int):∀(m:List Int) (b:Nat),∀p∈gg W b m,(b:Int)<=p.1/\p.1<(b+m.length:Nat)
 |[],b,p,h=>by cases h
 | w::r,b,p,h=>by
   have ih:=uP W r (b+1) p;rw[List.length_cons];rw[gg]at h;split at h
   . have:=ih h;omega
   . rcases List.mem_cons.1 h with e|h
     . rw[e];simp only;omega
     . have:=ih h;omega
theorem xx (W:List Int):∀(m:List Int) (b:Nat),(gg W b m).length<=m.length
 |[],b=>Nat.le_refl _
 | w::r,b=>by
   have:=xx W r (b+1);rw[gg]
   split<;>simp<;>omega
theorem yF:∀(l:List (Int×Int)) (W:List Int) (k:Nat),(∀p∈l,(k:Int)<p.1)->(apW W l)[k]? =W[k]?
 |[],W,k,_=>rfl
 | p::l,W,k,h=>by
   have h0:=h p (List.mem_cons_self ..);show(apW (stA W p) l)[k]? =_
   rw[yF l (stA W p) k fun q hq=>h q (List.mem_cons_of_mem _ hq)];unfold stA;split
   . rw[List.getElem?_set_ne (by omega)]
   . rfl
theorem zd:∀(m:List Int) (b:Nat) (W W0:List Int),(∀k,b<=k->W[k]? =W0[k]?)->b+m.length<=W.length->∀i,i<m.length->(apW W (gg W0 b m))[b+i]? =m[i]?
 |[],b,W,W0,_,_,i,hi=>by cases hi
 | w::r,b,W,W0,hW,hl,i,hi=>by
   rw[List.length_cons]at hl hi;have ge:=uP W0 r (b+1);rw[gg];split
   . rename_i h
     cases i with
     | zero=>
       show(apW W (gg W0 (b+1) r))[b]? =some w
       rw[yF _ _ _ fun p hp=>by have:=ge p hp;omega,hW b (Nat.le_refl _),h]
     | succ i=>
       have:=zd r (b+1) W W0 (fun k hk=>hW k (by omega)) (by omega) i (by omega)
       rw[show b+(i+1)=b+1+i by omega,this];rfl
   . show(apW (stA W ((b:Int),w)) (gg W0 (b+1) r))[b+i]? =_
     have e:stA W ((b:Int),w)=W.set b w:=by
       unfold stA;simp only;rw[if_pos (by omega),Int.toNat_natCast]
     rw[e]
     cases i with
     | zero=>
       show(apW (W.set b w) (gg W0 (b+1) r))[b]? =some w
       rw[yF _ _ _ fun p hp=>by have:=ge p hp;omega,List.getElem?_set_self (by omega)]
     | succ i=>
       have:=zd r (b+1) (W.set b w) W0 (fun k hk=>by rw[List.getElem?_set_ne (by omega)];exact hW k (by omega)) (by rw[List.length_set];omega) i (by omega)
       rw[show b+(i+1)=b+1+i by omega,this];rfl
theorem Ip (W m:List Int) (b:Nat) (hl:b+m.length<=W.length):(apW W (gg W b m)).drop b=m++(apW W (gg W b m)).drop (b+m.length):=by
 have h:=zd m b W W (fun _ _=>rfl) hl;generalize apW W (gg W b m)=V at*;apply List.ext_getElem?;intro i;rw[List.getElem?_drop];by_cases hi:i<m.length
 . rw[h i hi,List.getElem?_append_left hi]
 . rw[List.getElem?_append_right (by omega),List.getElem?_drop,show b+m.length+(i-m.length)=b+i by omega]
theorem Gz {α:Type} {sz:Nat} {f:α->List AV} {l:List α} {H:ab} {v:AV} (h:Own H sz v l.length (ah f l)) (hs:(ah f l).all (·.iZ)=true) (hne:∀s n c,v≠ .sl s n c .e):qE H v=some (fB sz f l):=by
 rcases h with⟨rfl|rfl,h1,h2⟩|⟨h0,g,rfl,hg⟩
 . have:l=[]:=List.eq_nil_of_length_eq_zero h1;subst this;rfl
 . exact absurd rfl (hne _ _ _)
 . have:l.isEmpty=false:=by cases l with|nil=>exact absurd rfl h0|cons _ _=>rfl
   simp only[qE,hg,fB,this,true_and,hs,if_true,Bool.false_eq_true,if_false]
theorem BC (l:List (Int×Int)):(ah fA l).all (·.iZ)=true:=by
 induction l with
 |nil=>rfl
 |cons x r ih=>rw[aL,List.all_append,ih];rfl
theorem lF {H:ab} {v:AV} {l:List (Int×Int)} (h:Own H 2 v l.length (ah fA l)) (hne:∀s n c,v≠ .sl s n c .e) (k:Int):pP (some (.ret (.tup [v,.int .i64 k]),H))=some (.iw (.tup [fB 2 fA l,.int .i64 k])):=by
 have e:=Gz h (BC l) hne
 have e2:xu H v=qE H v:=by
   rcases h with⟨h0|h0,_,_⟩|⟨_,g,h0,_⟩<;>rw[h0]<;>rfl
 have e3:xu H (.int .i64 k)=some (.int .i64 k):=rfl;simp only[pP,CC,zr,e2,e,e3,Option.map_some]
theorem KB (p:Nat->Bool):fB 1 aD (wL p 64)= .sl 1 64 (ah aD (wL p 64)) .ro:=by
 have:(wL p 64).isEmpty=false:=by
   rw[List.isEmpty_eq_false_iff];intro h;have:=dG p 64;rw[h]at this;cases this
 unfold fB
 rw[this,dG];rfl
theorem pE (pre:List Int) (x:Int) (r:List Int):List.drop pre.length (ah aD (pre++x::r))= .int .u64 x::ah aD r:=by
 have:=dN (f:=aD) pre (x::r);rw[Nat.mul_one]at this
 rw[this,aL];rfl
theorem Nn {W:List Int} {k:Nat} (h:k<W.length):∃x c,W[k]? =some x/\List.drop k (ah aD W)= .int .u64 x::c:=by
 refine⟨W[k],ah aD (W.drop (k+1)),List.getElem?_eq_getElem h, ?_⟩
 have e:W=W.take k++W[k]::W.drop (k+1):=by rw[List.getElem_cons_drop];simp
 have l1:(W.take k).length=k:=by rw[List.length_take];omega
 have:=pE (W.take k) W[k] (W.drop (k+1));rw[<-e,l1]at this;exact this
def pK (f:Frm):Nat:=64*(9+f.i/4+f.r/4).toNat
def yW (f:Frm) (bl:List Int) (W:List Int):List (Int×Int)×Int:=if(W.length:Int)=64*f.b then(gg W (pK f) (wL (pB f bl) 64),0)else([],2)
theorem MI {xo yo:X} (a m:Int):bE .neq (.struct [0,0]) xo yo (.agg [.int .i64 a,.int .u64 m]) (.agg [.int .i64 a,.int .u64 m])=some (.bool false):=by
 show(eqV (.struct [0,0]) (.agg [.int .i64 a,.int .u64 m]) (.agg [.int .i64 a,.int .u64 m])).map (fun b=>AV.bool (!b))=_
 have e:eqV (.struct [0,0]) (.agg [.int .i64 a,.int .u64 m]) (.agg [.int .i64 a,.int .u64 m])=aW [0,0] [.int .i64 a,.int .u64 m] [.int .i64 a,.int .u64 m]:=rfl;rw[e];simp only[aW,bk,if_true,beq_self_eq_true];rfl
theorem Ff (pre:List (Int×Int)) (x:Int×Int) (r:List (Int×Int)):List.drop (pre.length*2) (ah fA (pre++x::r))= .int .i64 x.1:: .int .u64 x.2::ah fA r:=by
 rw[dN,aL];rfl
theorem nG {l:List (Int×Int)} {s s2:Nat} {tk tk2:Tk} (hs:l≠[]->s=2) (hs2:l≠[]->s2=2) (hl:l.length<=100000) (H:ab):pcx (cbL tab) 23 [.sl s l.length (ah fA l) tk,.sl s2 l.length (ah fA l) tk2] H=some (.plain (.bool true)):=by
 obtain⟨u1,e1,f1⟩:=dc s l.length (ah fA l) tk;obtain⟨u2,e2,f2⟩:=dc s2 l.length (ah fA l) tk2;have hh:=bR (f:=fA) (fun _=>rfl) l;refine aS rfl (bc (fi:=c23) rfl ?_ (by simp[c23]) (by decide) ?_)
 . simp only[bF,List.map_cons,List.map_nil,e1,e2,c23,hfL,AV.hf,f1,f2,hh,Bool.and_self]
 unfold c23;rw[List.map_cons,List.map_cons,List.map_nil,e1,e2];simp(disch:=omega)only[wk,ae,↓reduceIte,reduceEqDiff,reduceEq,reduceAdd,reduceCtorEq]
 refine aR (fun(y:List (Int×Int)×List (Int×Int)) E df H=>l=y.1++y.2/\E 0= .sl s l.length (ah fA l) u1/\E 1= .sl s2 l.length (ah fA l) u2/\E 5= .int .i64 ((y.1.length:Nat):Int)/\df=[])
   (fun y=>y.2.length) ([],l) (by decide) (.inl rfl) ⟨rfl,rfl,rfl,rfl,rfl⟩ ?_
 intro ⟨pre,suf⟩ E df H ih hP;obtain⟨a1,E0,E1,E5,hdf⟩:=hP;dsimp only at a1 E5;subst hdf
 have la:l.length=pre.length+suf.length:=by rw[a1,List.length_append]
 cases suf with
 | nil=>
   have n1:¬(pre.length:Int)<(l.length:Int):=by rw[la];simp
   simp(disch:=omega)only[wk,ae,↓reduceIte,reduceEqDiff,reduceEq,reduceAdd,reduceCtorEq,E0,E1,E5,n1,aB,aI,aC,au,AV.hf,hfL]
 | cons y r=>
   rw[List.length_cons]at la
   have n1:(pre.length:Int)<(l.length:Int):=by omega
   obtain rfl:=hs (by rw[a1];simp);obtain rfl:=hs2 (by rw[a1];simp);have d1:=Ff pre y r;rw[<-a1]at d1;simp(disch:=omega)only[wk,ae,↓reduceIte,reduceEqDiff,reduceEq,reduceAdd,reduceCtorEq,E0,E1,E5,n1,d1,MI];exact ih (pre++[y],r) _ _ _ (by simp) ⟨by simp[a1],by simp only[en,↓reduceIte,reduceEqDiff,E0],by simp only[en,↓reduceIte,reduceEqDiff,E1],by simp only[en,↓reduceIte,reduceEqDiff],rfl⟩
theorem Iy (pre:List Int) (x:Int) (r:List Int) (rest:List AV):List.drop pre.length (ah aD (pre++x::r)++rest)= .int .u64 x::(ah aD r++rest):=by
 rw[List.drop_append,pE]
 have:List.drop (pre.length-(ah aD (pre++x::r)).length) rest=rest:=by
   rw[jT,List.length_append,show pre.length-(pre.length+(x::r).length)=0 by omega,List.drop_zero]
 rw[this];rfl
theorem vm {l:List Int} {s s2:Nat} {tk tk2:Tk} {rest:List AV} (hr:hfL rest=true) (hs:l≠[]->s=1) (hs2:l≠[]->s2=1) (hl:l.length<=100000) (H:ab):pcx (cbL tab) 21 [.sl s l.length (ah aD l++rest) tk,.sl s2 l.length (ah aD l) tk2] H=some (.plain (.bool true)):=by
 obtain⟨u1,e1,f1⟩:=dc s l.length (ah aD l++rest) tk;obtain⟨u2,e2,f2⟩:=dc s2 l.length (ah aD l) tk2;have hh:=fN l
 have hh2:hfL (ah aD l++rest)=true:=by rw[eK,hh,hr];rfl
 refine Na rfl (by rw[List.map_cons,List.map_cons,List.map_nil,jw,jw]) (bc (fi:=c21) rfl ?_ (by simp[c21]) (by decide) ?_) rfl
 . simp only[bF,List.map_cons,List.map_nil,e1,e2,c21,hfL,AV.hf,f1,f2,hh,hh2,Bool.and_self]
 unfold c21;rw[List.map_cons,List.map_cons,List.map_nil,e1,e2];simp(disch:=omega)only[wk,ae,↓reduceIte,reduceEqDiff,reduceEq,reduceAdd,reduceCtorEq]
 refine aR (fun(y:List Int×List Int) E df H=>l=y.1++y.2/\E 0= .sl s l.length (ah aD l++rest) u1/\E 1= .sl s2 l.length (ah aD l) u2/\E 5= .int .i64 ((y.1.length:Nat):Int)/\df=[])
   (fun y=>y.2.length) ([],l) (by decide) (.inl rfl) ⟨rfl,rfl,rfl,rfl,rfl⟩ ?_
 intro ⟨pre,suf⟩ E df H ih hP;obtain⟨a1,E0,E1,E5,hdf⟩:=hP;dsimp only at a1 E5;subst hdf
 have la:l.length=pre.length+suf.length:=by rw[a1,List.length_append]
 cases suf with
 | nil=>
   have n1:¬(pre.length:Int)<(l.length:Int):=by rw[la];simp
   simp(disch:=omega)only[wk,ae,↓reduceIte,reduceEqDiff,reduceEq,reduceAdd,reduceCtorEq,E0,E1,E5,n1,aB,aI,aC,au,AV.hf,hfL]
 | cons y r=>
   rw[List.length_cons]at la
   have n1:(pre.length:Int)<(l.length:Int):=by omega
   obtain rfl:=hs (by rw[a1];simp);obtain rfl:=hs2 (by rw[a1];simp);have d1:=pE pre y r;have d2:=Iy pre y r rest;rw[<-a1]at d1 d2;simp(disch:=omega)only[wk,ae,↓reduceIte,reduceEqDiff,reduceEq,reduceAdd,reduceCtorEq,E0,E1,E5,n1,d1,d2];exact ih (pre++[y],r) _ _ _ (by simp) ⟨by simp[a1],by simp only[en,↓reduceIte,reduceEqDiff,E0],by simp only[en,↓reduceIte,reduceEqDiff,E1],by simp only[en,↓reduceIte,reduceEqDiff],rfl⟩
theorem Dt (W:List Int) (l:List (Int×Int)) (t1 tk:Tk) (s:Nat) (h0:W≠[]) (hW:W.length<=1000000) (hl:l.length<=1000000) (hs:l≠[]->s=2) (hp:∀p∈l,0<=p.1/\p.1<W.length):
   (cbL tab).pc 24 [.sl 1 W.length (ah aD W) t1,.int .i64 (l.length:Nat),.sl s l.length (ah fA l) tk]=some (.iw (.tup [.sl 1 W.length (ah aD (apW W l)) .ro,.int .i64 0])):=by
 obtain⟨u1,e1,f1⟩:=dc 1 W.length (ah aD W) t1;obtain⟨u2,e2,f2⟩:=dc s l.length (ah fA l) tk;have hc:=fN W;have hpp:hfL (ah fA l)=true:=bR (fun _=>rfl) l;have lW:=jT W;have oW:=jd W
 have h00:W.length≠0:=fun e=>h0 (List.eq_nil_of_length_eq_zero e)
 refine uQ (fi:=c24) rfl ?_ (by simp[c24]) (by decide) ?_
 . simp only[bF,List.map_cons,List.map_nil,e1,e2,aE,c24,hfL,AV.hf,f1,f2,hc,hpp,Bool.and_self]
 unfold c24;rw[List.map_cons,List.map_cons,List.map_cons,List.map_nil,e1,e2,aE]
 have ap:kA 1 8 (.sl 1 0 [] .e) (.sl 1 W.length (ah aD W) u1) []=some (.val (.rsl 1 0 W.length),[.cells (ah aD W)]):=by
   have ht:(ah aD W).take (W.length*1)=ah aD W:=List.take_of_length_le (by omega)
   have g1:W.length*8<=70368744177664:=by omega
   have g2:W.length<=70368744177664:=by omega
   have g3:W.length*1<=(ah aD W).length:=by omega
   simp only[kA,ht,h00,oW,g1,g2,g3,Tk.empty,ne_eq,not_false_eq_true,and_self,if_true,Nat.lt_one_iff,Nat.zero_lt_one,List.length_nil,List.nil_append]
 have n0:¬((l.length:Nat):Int)<0:=by omega
 have n1:¬((l.length:Nat):Int)<((l.length:Nat):Int):=by omega
 simp(disch:=omega)only[wk,ae,↓reduceIte,reduceEqDiff,reduceEq,reduceAdd,reduceCtorEq,n0,n1,ap,aJ,ct]
 refine aR (fun(x:List (Int×Int)×List (Int×Int)) E df H=>l=x.1++x.2/\E 1= .int .i64 (l.length:Nat)/\E 2= .sl s l.length (ah fA l) u2/\E 8= .rsl 1 0 W.length/\E 9= .int .i64 (x.1.length:Nat)/\df=[]/\H=[.cells (ah aD (apW W x.1))])
   (fun x=>x.2.length) ([],l) (by decide) (.inl rfl) ⟨rfl,by simp only[en,↓reduceIte,reduceEqDiff],by simp only[en,↓reduceIte,reduceEqDiff],by simp only[en,↓reduceIte,reduceEqDiff],by simp only[en,↓reduceIte,reduceEqDiff];rfl,rfl,rfl⟩ ?_
 intro ⟨pre,suf⟩ E df H ih hP;obtain⟨a1,E1,E2,E8,E9,hdf,hH⟩:=hP;dsimp only at a1 E9 hH;subst hdf hH
 have hll:l.length=pre.length+suf.length:=by rw[a1,List.length_append]
 have lV:=uh pre W
 cases suf with
 | nil=>
   have ep:pre=l:=by rw[a1];simp
   have n2:¬(pre.length:Int)<(l.length:Int):=by rw[hll];simp
   rw[ep]at lV ⊢
   have k1:(ah aD (apW W l)).length=W.length:=by rw[jT,lV]
   have k2:(ah aD (apW W l)).take (W.length*1)=ah aD (apW W l):=List.take_of_length_le (by omega)
   have nw:qE [.cells (ah aD (apW W l))] (.rsl 1 0 W.length)=some (.sl 1 W.length (ah aD (apW W l)) .ro):=by
     simp only[qE,List.getElem?_cons_zero,k1,k2,z5];rw[if_pos ⟨by omega,trivial⟩]
   have na:xu [.cells (ah aD (apW W l))] (.rsl 1 0 W.length)=some (.sl 1 W.length (ah aD (apW W l)) .ro):=nw;have ni:xu [.cells (ah aD (apW W l))] (.int .i64 0)=some (.int .i64 0):=rfl;simp(disch:=omega)only[wk,ae,↓reduceIte,reduceEqDiff,reduceEq,reduceAdd,reduceCtorEq,E1,E2,E8,E9,n2,pP,CC,zr,na,ni]
 | cons x r=>
   rw[List.length_cons]at hll
   have n2:(pre.length:Int)<(l.length:Int):=by omega
   obtain rfl:=hs (by rw[a1];simp);have d1:=Ff pre x r;rw[<-a1]at d1;obtain⟨p1,p2⟩:=hp x (by rw[a1];simp);obtain⟨z,hz⟩:=Int.eq_ofNat_of_zero_le p1;rw[hz]at d1
   have n3:¬(z:Int)<0:=by omega
   have n4:¬(W.length:Int)<=(z:Int):=by omega
   have n5:(z:Int)<(W.length:Int):=by omega
   have k1:(ah aD (apW W pre)).length=W.length:=by rw[jT,lV]
   have kz:z+1<=W.length:=by omega
   have sc:=HZ (apW W pre) z x.2 (by omega)
   have e:(apW W pre).set z x.2=apW W (pre++[x]):=by
     have e1:apW W (pre++[x])=stA (apW W pre) x:=by unfold apW;rw[List.foldl_append];rfl
     rw[e1];unfold stA;rw[if_pos (by rw[lV];omega),hz,Int.toNat_natCast]
   rw[e]at sc;simp(disch:=omega)only[wk,ae,↓reduceIte,reduceEqDiff,reduceEq,reduceAdd,reduceCtorEq,E1,E2,E8,E9,n2,d1,n3,n4,n5,k1,kz,Nat.zero_add,sc,aJ,ct];exact ih (pre++[x],r) _ _ _ (by simp) ⟨by simp[a1],by simp only[en,↓reduceIte,reduceEqDiff,E1],by simp only[en,↓reduceIte,reduceEqDiff,E2],by simp only[en,↓reduceIte,reduceEqDiff,E8],by simp only[en,↓reduceIte,reduceEqDiff],rfl,rfl⟩
theorem yX {f:Frm} {rt:Tv} {ns bl rl:List Int} {bv rv:AV} (I:Img f rt ns bl rl bv rv) (W:List Int) (hW:W.length<=10000) {tk:Tk} (htk:tk.hf=true):
   (cbL bP).pc 19 [.sl 1 W.length (ah aD W) tk,.agg (bT f (mkT rt ns) bv rv)]=some (.iw (.tup [fB 2 fA (if okI f bl rl then yW f bl W else([],2)).1,.int .i64 (if okI f bl rl then yW f bl W else([],2)).2])):=by
 have sm:=fun H=>A9 I H
 obtain⟨u1,e1,f1⟩:=dc 1 W.length (ah aD W) tk;have hh:=fN W;have li:=I.aC
 have h1:(AV.agg (bT f (mkT rt ns) bv rv)).hf=true:=by
   have:=I.hf;simpa[hfL] using this
 have o1:=I.b.one;have o2:=I.r.one;have hf:=I.fo;unfold okF at hf;have b64:=I.b64;refine uQ (fi:=c19) rfl ?_ (by simp[c19]) (by decide) ?_
 . simp only[bF,List.map_cons,List.map_nil,e1,li,c19];show((AV.sl 1 W.length (ah aD W) u1).hf&&((AV.agg (bT f (mkT rt ns) bv rv)).hf&&true))=true
   rw[h1];simp[AV.hf,hh,f1]
 unfold c19;rw[List.map_cons,List.map_cons,List.map_nil,e1,li];have wb:IntKind.i64.wrap (f.b*64)=f.b*64:=wrap_i64 (by omega) (by omega)
 have n2:∀(H:ab),pP (some (.ret (.tup [.sl 0 0 [] .z,.int .i64 2]),H))=some (.iw (.tup [fB 2 fA [],.int .i64 2])):=fun H=>lF (l:=[]) (.inl ⟨.inl rfl,rfl,rfl⟩) (fun s n c e=>by cases e) 2
 cases ok:okI f bl rl with
 | false=>
   rw[ok]at sm;simp only[Bool.false_eq_true,if_false]at sm ⊢;clear li I h1;generalize mkT rt ns=T at*;unfold bT at*;simp(disch:=omega)only[wk,ae,↓reduceIte,reduceEqDiff,reduceEq,reduceAdd,reduceCtorEq,sm,o1,o2,aJ,ct];exact n2 _
 | true=>
   rw[ok]at sm;simp only[if_true]at sm ⊢;rw[KB]at sm;have hM:(wL (pB f bl) 64).length=64:=dG _ _;unfold yW;by_cases hl:(W.length:Int)=64*f.b
   case neg=>
     rw[if_neg hl]
     have hl2:¬(W.length:Int)=f.b*64:=by omega
     clear li I h1;generalize wL (pB f bl) 64=M at*;generalize mkT rt ns=T at*;unfold bT at*;simp(disch:=omega)only[wk,ae,↓reduceIte,reduceEqDiff,reduceEq,reduceAdd,reduceCtorEq,sm,o1,o2,wb,hl2,aJ,ct];exact n2 _
   rw[if_pos hl]
   have hl2:(W.length:Int)=f.b*64:=by omega
   obtain⟨B,hB⟩:∃B,B=pK f:=⟨_,rfl⟩
   have hB2:(B:Int)=(9+f.i/4+f.r/4)*64:=by rw[hB];unfold pK;omega
   have hBW:B+64<=W.length:=by omega
   rw[<-hB];clear li I h1 hB;generalize wL (pB f bl) 64=M at*;generalize mkT rt ns=T at*;obtain⟨IC,hIC⟩:∃IC,IC=bT f T bv rv:=⟨_,rfl⟩;have im:bT f T bv rv=[.int .i64 f.b,.int .i64 f.i,.int .i64 f.r,.int .i64 f.t,.int .u64 5,.int .u64 6,.int .i64 9,.int .i64 (9+f.i/4),.int .i64 (9+f.i/4+f.r/4),.int .i64 (dF f),.sl 7 T.length (ah tvC T) .ro,bv,rv]:=rfl
   have wm:IntKind.i64.wrap ((9+f.i/4+f.r/4)*64)=(B:Int):=by rw[wrap_i64 (by omega) (by omega)];omega
   rw[im]at sm ⊢;simp(disch:=omega)only[wk,ae,↓reduceIte,reduceEqDiff,reduceEq,reduceAdd,reduceCtorEq,sm,o1,o2,wb,hl2,aJ,ct]
   refine aR (fun(x:List Int×List Int×List (Int×Int)) E df G=>M=x.1++x.2.1/\gg W B M=x.2.2++gg W (B+x.1.length) x.2.1/\x.2.2.length<=x.1.length/\E 0= .sl 1 W.length (ah aD W) u1/\E 3= .ptr 0 0/\Own G 2 (E 4) x.2.2.length (ah fA x.2.2)/\(∀s n c,E 4≠ .sl s n c .e)/\E 27= .sl 1 64 (ah aD M) .ro/\E 28= .int .i64 64/\E 29= .int .i64 (x.1.length:Nat)/\df=[]/\G[0]? =some (.cells (bT f T bv rv)))
     (fun x=>x.2.1.length) ([],M,[]) (by decide) (.inl rfl) ⟨rfl,rfl,Nat.le_refl _,by simp only[en,↓reduceIte,reduceEqDiff],by simp only[en,↓reduceIte,reduceEqDiff],.inl ⟨.inl rfl,rfl,rfl⟩,(fun s n c e=>by cases e),by simp only[en,↓reduceIte,reduceEqDiff],by simp only[en,↓reduceIte,reduceEqDiff];rfl,by simp only[en,↓reduceIte,reduceEqDiff];rfl,rfl,rfl⟩ ?_
   intro ⟨pre,suf,out⟩ E df G ih hP;obtain⟨a1,a2,lo,E0,E3,E4,E4e,E27,E28,E29,hdf,g0⟩:=hP;dsimp only at a1 a2 lo E4 E29;subst hdf
   have la:pre.length+suf.length=64:=by rw[<-hM,a1,List.length_append]
   cases suf with
   | nil=>
     have n1:¬(pre.length:Int)<64:=by simp at la;omega
     rw[gg,List.append_nil]at a2;rw[a2];simp(disch:=omega)only[wk,ae,↓reduceIte,reduceEqDiff,reduceEq,reduceAdd,reduceCtorEq,E0,E3,E27,E28,E29,n1];exact lF E4 E4e 0
   | cons x r=>
     rw[List.length_cons]at la
     have n1:(pre.length:Int)<64:=by omega
     have d1:=pE pre x r;rw[<-a1]at d1;obtain⟨y,c,q1,q2⟩:=Nn (W:=W) (k:=B+pre.length) (by omega)
     have wa:IntKind.i64.wrap ((B:Int)+(pre.length:Int))=((B+pre.length:Nat):Int):=by rw[wrap_i64 (by omega) (by omega)];omega
     have n3:((B+pre.length:Nat):Int)<(W.length:Int):=by omega
     rw[im]at g0;rw[gg]at a2;by_cases hxy:y=x
     . rw[if_pos (by rw[q1,hxy])]at a2;simp(disch:=omega)only[wk,ae,↓reduceIte,reduceEqDiff,reduceEq,reduceAdd,reduceCtorEq,E0,E3,E27,E28,E29,n1,n3,d1,g0,wm,wa,q2,hxy];exact ih (pre++[x],r,out) _ _ _ (by simp) ⟨by simp[a1],by rw[a2];simp[Nat.add_assoc],by simp;omega,by simp only[en,↓reduceIte,reduceEqDiff,E0],by simp only[en,↓reduceIte,reduceEqDiff,E3],by simp only[en,↓reduceIte,reduceEqDiff];exact E4,by simp only[en,↓reduceIte,reduceEqDiff];exact E4e,by simp only[en,↓reduceIte,reduceEqDiff,E27],by simp only[en,↓reduceIte,reduceEqDiff,E28],by simp only[en,↓reduceIte,reduceEqDiff],rfl,by rw[im];exact g0⟩
     . rw[if_neg (by rw[q1];simpa using hxy)]at a2;simp(disch:=omega)only[wk,ae,↓reduceIte,reduceEqDiff,reduceEq,reduceAdd,reduceCtorEq,E0,E3,E27,E28,E29,n1,n3,d1,g0,wm,wa,q2,hxy];refine cm E4 (by decide) (by omega) (by omega) (by decide) rfl rfl (fun H2 q3 q4 q5=> ?_)
       have g2:=q4.cells E4 rfl g0 fun s e=>by cases e
       simp(disch:=omega)only[wk,ae,↓reduceIte,reduceEqDiff,reduceEq,reduceAdd,reduceCtorEq,E0,E3,E27,E28,E29];refine ih (pre++[x],r,out++[(((B+pre.length:Nat):Int),x)]) _ _ _ (by simp) ⟨by simp[a1],by rw[a2];simp[Nat.add_assoc],by simp;omega,by simp only[en,↓reduceIte,reduceEqDiff,E0],by simp only[en,↓reduceIte,reduceEqDiff,E3], ?_,fun s n c e=> ?_,by simp only[en,↓reduceIte,reduceEqDiff,E27],by simp only[en,↓reduceIte,reduceEqDiff,E28],by simp only[en,↓reduceIte,reduceEqDiff],rfl,by rw[im];exact g2⟩
       . simp only[en,↓reduceIte,reduceEqDiff];rw[aZ];exact q3
       . revert e;simp only[en,↓reduceIte,reduceEqDiff];intro e;cases e
theorem za {f:Frm} {rt:Tv} {ns bl rl:List Int} {bv rv:AV} (I:Img f rt ns bl rl bv rv) (ok:okI f bl rl=true) (W:List Int) (hW:W.length<=10000) {tk:Tk} (htk:tk.hf=true):
   (cbL tab).pc 20 [.sl 1 W.length (ah aD W) tk,.agg (bT f (mkT rt ns) bv rv)]=some (.iw (.tup [fB 2 fA (yW f bl W).1,.int .i64 (yW f bl W).2])):=by
 have sm:=fun H=>Ar I ok H
 obtain⟨u1,e1,f1⟩:=dc 1 W.length (ah aD W) tk;have hh:=fN W;have li:=I.aC
 have h1:(AV.agg (bT f (mkT rt ns) bv rv)).hf=true:=by
   have:=I.hf;simpa[hfL] using this
 have o1:=I.b.one;have o2:=I.r.one;have hf:=I.fo;unfold okF at hf;have b64:=I.b64;refine uQ (fi:=c20) rfl ?_ (by simp[c20]) (by decide) ?_
 . simp only[bF,List.map_cons,List.map_nil,e1,li,c20];show((AV.sl 1 W.length (ah aD W) u1).hf&&((AV.agg (bT f (mkT rt ns) bv rv)).hf&&true))=true
   rw[h1];simp[AV.hf,hh,f1]
 unfold c20;rw[List.map_cons,List.map_cons,List.map_nil,e1,li];have wb:IntKind.i64.wrap (64*f.b)=64*f.b:=wrap_i64 (by omega) (by omega)
 have n2:∀(H:ab),pP (some (.ret (.tup [.sl 0 0 [] .z,.int .i64 2]),H))=some (.iw (.tup [fB 2 fA [],.int .i64 2])):=fun H=>lF (l:=[]) (.inl ⟨.inl rfl,rfl,rfl⟩) (fun s n c e=>by cases e) 2
 have hM:(wL (pB f bl) 64).length=64:=dG _ _;unfold yW;by_cases hl:(W.length:Int)=64*f.b
 case neg=>
   rw[if_neg hl];clear li I h1;generalize wL (pB f bl) 64=M at*;generalize mkT rt ns=T at*;unfold bT at*;simp(disch:=omega)only[wk,ae,↓reduceIte,reduceEqDiff,reduceEq,reduceAdd,reduceCtorEq,sm,o1,o2,wb,hl];exact n2 _
 rw[if_pos hl];obtain⟨B,hB⟩:∃B,B=pK f:=⟨_,rfl⟩
 have hB2:(B:Int)=64*(9+f.i/4+f.r/4):=by rw[hB];unfold pK;omega
 have hBW:B+64<=W.length:=by omega
 rw[<-hB];clear li I h1 hB;generalize wL (pB f bl) 64=M at*;generalize mkT rt ns=T at*;have im:bT f T bv rv=[.int .i64 f.b,.int .i64 f.i,.int .i64 f.r,.int .i64 f.t,.int .u64 5,.int .u64 6,.int .i64 9,.int .i64 (9+f.i/4),.int .i64 (9+f.i/4+f.r/4),.int .i64 (dF f),.sl 7 T.length (ah tvC T) .ro,bv,rv]:=rfl
 have wm:IntKind.i64.wrap (64*(9+f.i/4+f.r/4))=(B:Int):=by rw[wrap_i64 (by omega) (by omega)];omega
 rw[im]at sm ⊢;simp(disch:=omega)only[wk,ae,↓reduceIte,reduceEqDiff,reduceEq,reduceAdd,reduceCtorEq,sm,o1,o2,wb,hl]
 refine aR (fun(x:List Int×List Int×List (Int×Int)) E df G=>M=x.1++x.2.1/\gg W B M=x.2.2++gg W (B+x.1.length) x.2.1/\x.2.2.length<=x.1.length/\E 0= .sl 1 W.length (ah aD W) u1/\E 3= .ptr 0 0/\Own G 2 (E 7) x.2.2.length (ah fA x.2.2)/\(∀s n c,E 7≠ .sl s n c .e)/\E 6= .sl 1 64 (ah aD M) .ro/\E 8= .int .i64 (x.1.length:Nat)/\df=[]/\G[0]? =some (.cells (bT f T bv rv)))
   (fun x=>x.2.1.length) ([],M,[]) (by decide) (.inl rfl) ⟨rfl,rfl,Nat.le_refl _,by simp only[en,↓reduceIte,reduceEqDiff],by simp only[en,↓reduceIte,reduceEqDiff],.inl ⟨.inl rfl,rfl,rfl⟩,(fun s n c e=>by cases e),by simp only[en,↓reduceIte,reduceEqDiff],by simp only[en,↓reduceIte,reduceEqDiff];rfl,rfl,rfl⟩ ?_
 intro ⟨pre,suf,out⟩ E df G ih hP;obtain⟨a1,a2,lo,E0,E3,E7,E7e,E6,E8,hdf,g0⟩:=hP;dsimp only at a1 a2 lo E7 E8;subst hdf
 have la:pre.length+suf.length=64:=by rw[<-hM,a1,List.length_append]
 cases suf with
 | nil=>
   have n1:¬(pre.length:Int)<64:=by simp at la;omega
   rw[gg,List.append_nil]at a2;rw[a2];simp(disch:=omega)only[wk,ae,↓reduceIte,reduceEqDiff,reduceEq,reduceAdd,reduceCtorEq,E0,E3,E6,E8,n1];exact lF E7 E7e 0
 | cons x r=>
   rw[List.length_cons]at la
   have n1:(pre.length:Int)<64:=by omega
   have d1:=pE pre x r;rw[<-a1]at d1;obtain⟨y,c,q1,q2⟩:=Nn (W:=W) (k:=B+pre.length) (by omega)
   have wa:IntKind.i64.wrap ((B:Int)+(pre.length:Int))=((B+pre.length:Nat):Int):=by rw[wrap_i64 (by omega) (by omega)];omega
   have n3:((B+pre.length:Nat):Int)<(W.length:Int):=by omega
   rw[im]at g0;rw[gg]at a2;by_cases hxy:y=x
   . rw[if_pos (by rw[q1,hxy])]at a2;simp(disch:=omega)only[wk,ae,↓reduceIte,reduceEqDiff,reduceEq,reduceAdd,reduceCtorEq,E0,E3,E6,E8,n1,n3,d1,g0,wm,wa,q2,hxy];exact ih (pre++[x],r,out) _ _ _ (by simp) ⟨by simp[a1],by rw[a2];simp[Nat.add_assoc],by simp;omega,by simp only[en,↓reduceIte,reduceEqDiff,E0],by simp only[en,↓reduceIte,reduceEqDiff,E3],by simp only[en,↓reduceIte,reduceEqDiff];exact E7,by simp only[en,↓reduceIte,reduceEqDiff];exact E7e,by simp only[en,↓reduceIte,reduceEqDiff,E6],by simp only[en,↓reduceIte,reduceEqDiff],rfl,by rw[im];exact g0⟩
   . rw[if_neg (by rw[q1];simpa using hxy)]at a2;simp(disch:=omega)only[wk,ae,↓reduceIte,reduceEqDiff,reduceEq,reduceAdd,reduceCtorEq,E0,E3,E6,E8,n1,n3,d1,g0,wm,wa,q2,hxy];refine cm E7 (by decide) (by omega) (by omega) (by decide) rfl rfl (fun H2 q3 q4 q5=> ?_)
     have g2:=q4.cells E7 rfl g0 fun s e=>by cases e
     simp(disch:=omega)only[wk,ae,↓reduceIte,reduceEqDiff,reduceEq,reduceAdd,reduceCtorEq,E0,E3,E6,E8];refine ih (pre++[x],r,out++[(((B+pre.length:Nat):Int),x)]) _ _ _ (by simp) ⟨by simp[a1],by rw[a2];simp[Nat.add_assoc],by simp;omega,by simp only[en,↓reduceIte,reduceEqDiff,E0],by simp only[en,↓reduceIte,reduceEqDiff,E3], ?_,fun s n c e=> ?_,by simp only[en,↓reduceIte,reduceEqDiff,E6],by simp only[en,↓reduceIte,reduceEqDiff],rfl,by rw[im];exact g2⟩
     . simp only[en,↓reduceIte,reduceEqDiff];rw[aZ];exact q3
     . revert e;simp only[en,↓reduceIte,reduceEqDiff];intro e;cases e
theorem zO {G:ab} {id:Nat} {W:List Int} (hg:G[id]? =some (.cells (ah aD W))):bw G 4 (.msl 1 id 0 W.length)= .sl 1 W.length (ah aD W) .ro:=by
 show(match G[id]? with|some (.cells cs)=>if 0+W.length*1<=cs.length then AV.sl 1 W.length (((cs.drop 0).take (W.length*1)).map (bw G 3)) .ro else .msl 1 id 0 W.length|_=> .msl 1 id 0 W.length)=_
 rw[hg];simp only[jT];rw[if_pos (by omega),List.drop_zero,List.take_of_length_le (by rw[jT];omega)]
 have:(ah aD W).map (bw G 3)=ah aD W:=by
   clear hg
   induction W with
   |nil=>rfl
   |cons x l ih=>rw[aL,List.map_append,ih];rfl
 rw[this]
theorem ma (l:List Int) (k:Nat):(ah aD l).take k=ah aD (l.take k)/\(ah aD l).drop k=ah aD (l.drop k):=by
 induction l generalizing k with
 |nil=>simp[ah]
 | cons x l ih=>
   cases k with
   |zero=>simp[ah]
   | succ k=>
     obtain⟨i1,i2⟩:=ih k;rw[List.take_succ_cons,List.drop_succ_cons];constructor
     . show AV.int .u64 x::List.take k (ah aD l)=_
       rw[i1];rfl
     . show List.drop k (ah aD l)=_
       rw[i2]
theorem N2 (n:Nat):bX n [AV.int .u64 0]=ah aD (List.replicate n 0):=by
 induction n with
 |zero=>rfl
 |succ n ih=>rw[List.replicate_succ,aL,<-ih];rfl
theorem IL {n:Nat} (h:n<=100000):eo 1 8 [.int .u64 0] (.int .i64 (n:Int)) (.int .i64 (n:Int))=some n:=by
 have:(n:Int).toNat=n:=by simp
 simp only[eo,this];rw[if_pos ⟨trivial,by omega,rfl,rfl,by omega,by omega⟩]
def UR (l:List Int) (v:AV):Prop:=∃s tk,v= .sl s l.length (ah aD l) tk/\(l≠[]->s=1)/\tk.hf=true
theorem Kw:∀(rows:List (List AV)),(∀r∈rows,r.length=1)->(∀r∈rows,∀(i:Nat) (s:Sh) (v:AV),([.int .u64]:List Sh)[i]? =some s->r[i]? =some v->OkS s v)->∃l:List Int,rows.flatten=ah aD l/\rows.length=l.length
 |[],_,_=>⟨[],rfl,rfl⟩
 | r::rows,h1,h2=>by
   obtain⟨l,e1,e2⟩:=Kw rows (fun x hx=>h1 x (List.mem_cons_of_mem _ hx)) (fun x hx=>h2 x (List.mem_cons_of_mem _ hx));have hr:=h1 r (List.mem_cons_self ..)
   match r,hr with
   | [v],_=>
     have o:=h2 [v] (List.mem_cons_self ..) 0 (.int .u64) v rfl rfl
     obtain⟨n,rfl⟩:∃n:Int,v= .int .u64 n:=by cases o;exact⟨_,rfl⟩
     refine⟨n::l, ?_,by rw[List.length_cons,List.length_cons,e2]⟩
     rw[List.flatten_cons,e1];rfl
theorem M6 {v:AV} (h:OkS (.slice [.int .u64]) v):∃l,UR l v:=by
 cases h with
 |slnil=>exact⟨[],1,.z,rfl,fun _=>rfl,rfl⟩
 | sl _ rows h hl hr=>
   obtain⟨l,e1,e2⟩:=Kw rows hl hr;exact⟨l,1,.ro,by rw[e1,e2];rfl,fun _=>rfl,rfl⟩
theorem L3 {f:Frm} {rt:Tv} {ns bl rl:List Int} {bv rv:AV} (I:Img f rt ns bl rl bv rv) (G:ab):bw G 4 (.agg (bT f (mkT rt ns) bv rv))= .agg (bT f (mkT rt ns) bv rv):=by
 have k:∀{l:List Int} {v:AV},dP l v->bw G 3 v=v:=fun⟨s,tk,e,_⟩=>by rw[e,jw]
 show AV.agg ((bT f (mkT rt ns) bv rv).map (bw G 3))=_
 have im:bT f (mkT rt ns) bv rv=[.int .i64 f.b,.int .i64 f.i,.int .i64 f.r,.int .i64 f.t,.int .u64 5,.int .u64 6,.int .i64 9,.int .i64 (9+f.i/4),.int .i64 (9+f.i/4+f.r/4),.int .i64 (dF f),.sl 7 (mkT rt ns).length (ah tvC (mkT rt ns)) .ro,bv,rv]:=rfl;rw[im];simp only[List.map_cons,List.map_nil,k I.b,k I.r,jw];rfl
theorem tK {f:Frm} {bl rl fl:List Int} {bv rv fv:AV} (hb:dP bl bv) (hr:dP rl rv) (hfl:dP fl fv) {few:List Int} {w:AV} (hw:UR few w) (more:Int):(cbL bP).pc 6 [iB f bv rv fv,w,.int .i64 more]=some (.plain (.bool true)):=by
 have lu:aC (iB f bv rv fv)=iB f bv rv fv:=by
   show AV.agg [_,_,_,_,au bv,au rv,au fv]=_
   rw[hb.un,hr.un,hfl.un];rfl
 obtain⟨sw,tw,rfl,hsw,htw⟩:=hw;obtain⟨u,e1,f1⟩:=dc sw few.length (ah aD few) tw;have hfw:=fN few;obtain⟨r,m1,m2,m3⟩:=JK hb hr hfl (f:=f)
 have mp:=fun H=>aS (H:=H) (show(cbL bP).cy 8=false from rfl) (OF m1)
 have ob:=hb.one;have orr:=hr.one;have of:=hfl.one;refine bc (fi:=c6) rfl ?_ (by simp[c6]) (by decide) ?_
 . simp only[bF,List.map_cons,List.map_nil,lu,e1,aE,c6];simp only[iB,hfL,AV.hf,hb.hf,hr.hf,hfl.hf,hfw,f1,Bool.and_self]
 unfold c6;rw[List.map_cons,List.map_cons,List.map_cons,List.map_nil,lu,e1,aE];by_cases hu:okU f bl rl fl
 case neg=>
   rw[m2 hu]at mp;clear m2 m3;unfold iB z13 at*;simp(disch:=omega)only[wk,ae,↓reduceIte,reduceEqDiff,reduceEq,reduceAdd,reduceCtorEq,mp,ob,orr,of,dw,aJ,ct,aB,aI,aC,au,AV.hf,hfL]
 obtain⟨rt,ns,h1,h2,h3⟩:=m3 hu;have I:=M9 hb hr hu h1 h2;rw[h3]at mp;have im:bT f (mkT rt ns) bv rv=[.int .i64 f.b,.int .i64 f.i,.int .i64 f.r,.int .i64 f.t,.int .u64 5,.int .u64 6,.int .i64 9,.int .i64 (9+f.i/4),.int .i64 (9+f.i/4+f.r/4),.int .i64 (dF f),.sl 7 (mkT rt ns).length (ah tvC (mkT rt ns)) .ro,bv,rv]:=rfl;by_cases c1:(64:Int)<(few.length:Int)
 . rw[im]at mp;clear m2 m3 I h1 h2 h3 im;generalize mkT rt ns=T at*;unfold iB at*;simp(disch:=omega)only[wk,ae,↓reduceIte,reduceEqDiff,reduceEq,reduceAdd,reduceCtorEq,mp,ob,orr,of,c1,dw,aJ,ct,aB,aI,aC,au,AV.hf,hfL]
 by_cases c2:more< -1
 . rw[im]at mp;clear m2 m3 I h1 h2 h3 im;generalize mkT rt ns=T at*;unfold iB at*;simp(disch:=omega)only[wk,ae,↓reduceIte,reduceEqDiff,reduceEq,reduceAdd,reduceCtorEq,mp,ob,orr,of,c1,c2,dw,aJ,ct,aB,aI,aC,au,AV.hf,hfL,Int.reduceToNat,Int.reduceAdd,Int.reduceSub,Int.reduceMul,Int.reduceNeg,Nat.reduceSub,Nat.reduceDiv]
 by_cases c3:1<more
 . rw[im]at mp;clear m2 m3 I h1 h2 h3 im;generalize mkT rt ns=T at*;unfold iB at*;simp(disch:=omega)only[wk,ae,↓reduceIte,reduceEqDiff,reduceEq,reduceAdd,reduceCtorEq,mp,ob,orr,of,c1,c2,c3,dw,aJ,ct,aB,aI,aC,au,AV.hf,hfL,Int.reduceToNat,Int.reduceAdd,Int.reduceSub,Int.reduceMul,Int.reduceNeg,Nat.reduceSub,Nat.reduceDiv]
 have rc:=fun H=>toR (BA I.fo h1 h2 hb hr I.lb I.lr H)
 have sm:=fun H=>A9 I H
 have hf:=I.fo;unfold okF at hf;have b64:=I.b64;obtain⟨n,hn⟩:=Int.eq_ofNat_of_zero_le (show 0<=64*f.b+more by omega);obtain⟨B,hB⟩:∃B,B=pK f:=⟨_,rfl⟩
 have hB2:(B:Int)=64*(9+f.i/4+f.r/4):=by rw[hB];unfold pK;omega
 have hBn:B+63<=n:=by omega
 have hB0:0<B:=by omega
 have w1:IntKind.i64.wrap (64*f.b)=64*f.b:=wrap_i64 (by omega) (by omega)
 have w2:IntKind.i64.wrap (64*f.b+more)=(n:Int):=by rw[wrap_i64 (by omega) (by omega)];omega
 have wm:IntKind.i64.wrap (64*(9+f.i/4+f.r/4))=(B:Int):=by rw[wrap_i64 (by omega) (by omega)];omega
 have md:=IL (n:=n) (by omega);have r0:=N2 n;obtain⟨K,hK⟩:∃K,K=min few.length (n-B):=⟨_,rfl⟩
 have hKl:K<=few.length/\K<=n-B:=by omega
 obtain⟨Z,hZ⟩:∃Z:List Int,Z=List.replicate n 0:=⟨_,rfl⟩
 have hZl:Z.length=n:=by rw[hZ];simp
 rw[<-hZ]at r0;obtain⟨W,hWd⟩:∃W:List Int,W=Z.take B++few.take K++Z.drop (B+K):=⟨_,rfl⟩
 have hWl:W.length=n:=by rw[hWd];simp;omega
 have cp:(few.length=0/\ah aD W=ah aD Z)∨(few.length≠0/\K<=(ah aD few).length/\0+B+K<=(ah aD Z).length/\aA ((ah aD few).take K)=true/\(ah aD Z).take (0+B)++(ah aD few).take K++(ah aD Z).drop (0+B+K)=ah aD W):=by
   by_cases h0:few.length=0
   . refine .inl ⟨h0, ?_⟩
     have hK0:K=0:=by omega
     have hf0:few=[]:=List.length_eq_zero_iff.1 h0
     rw[hWd,hK0,hf0];simp
   . refine .inr ⟨h0,by rw[jT];omega,by rw[jT];omega,by rw[(ma few _).1];exact jd _, ?_⟩;rw[(ma Z _).1,(ma few _).1,(ma Z _).2,<-aZ,<-aZ,hWd];simp
 have hns:sw=1∨few.length=0:=by
   by_cases h:few=[]
   . exact .inr (by rw[h];rfl)
   . exact .inl (hsw h)
 have le1:¬(B:Nat)=n:=by omega
 have le2:B<=n:=by omega
 obtain⟨H3,hH3⟩:∃H3:ab,H3=[.cells [.int .i64 f.b,.int .i64 f.i,.int .i64 f.r,.int .i64 f.t,bv,rv,fv],.cells (bT f (mkT rt ns) bv rv),.cells (ah aD W)]:=⟨_,rfl⟩
 have g3:H3[2]? =some (.cells (ah aD W)):=by rw[hH3];rfl
 have hid:[AV.msl 1 2 0 n,.agg (bT f (mkT rt ns) bv rv)].map (bw H3 4)=[.sl 1 W.length (ah aD W) .ro,.agg (bT f (mkT rt ns) bv rv)]:=by
   rw[List.map_cons,List.map_cons,List.map_nil,L3 I,<-hWl,zO g3]
 have st:=ug (H:=H3) (show(cbL bP).cy 19=true from rfl) hid (yX I W (by omega) rfl)
 cases ok:okI f bl rl with
 | false=>
   rw[ok]at rc sm st;simp only[Bool.false_eq_true,if_false]at rc sm st;have st:pcx (cbL bP) 19 [.msl 1 2 0 n,.agg (bT f (mkT rt ns) bv rv)] H3=some (.plain (.tup [.sl 0 0 [] .z,.int .i64 2])):=st;rw[hH3]at st;rw[im]at mp rc sm st;clear im m2 m3 I h1 h2 h3 hid hH3 g3;generalize mkT rt ns=T at*;unfold iB at*
   rcases cp with⟨k0,k1⟩|⟨k0,k1,k2,k3,k4⟩
   . rw[<-k1]at r0;simp(disch:=omega)only[wk,ae,↓reduceIte,reduceEqDiff,reduceEq,reduceAdd,reduceCtorEq,mp,ob,orr,of,c1,c2,c3,aJ,ct,Int.reduceToNat,Int.reduceAdd,Int.reduceSub,Int.reduceMul,Int.reduceNeg,Nat.reduceSub,Nat.reduceDiv,w1,w2,md,r0,wm,le1,le2,k0,rc,sm,st,jA,dw,aB,aI,aC,au,AV.hf,hfL]
   . obtain rfl:sw=1:=hns.resolve_right k0;simp(disch:=omega)only[wk,ae,↓reduceIte,reduceEqDiff,reduceEq,reduceAdd,reduceCtorEq,mp,ob,orr,of,c1,c2,c3,aJ,ct,Int.reduceToNat,Int.reduceAdd,Int.reduceSub,Int.reduceMul,Int.reduceNeg,Nat.reduceSub,Nat.reduceDiv,w1,w2,md,r0,wm,le1,le2,k0,<-hK,k1,k2,k3,k4,rc,sm,st,jA,dw,aB,aI,aC,au,AV.hf,hfL]
 | true=>
   have rs:=toR (ug (H:=H3) (show(cbL tab).cy 20=true from rfl) hid (za I ok W (by omega) rfl))
   have rm:=fun H=>toR (Ar I ok H)
   rw[ok]at rc sm st;simp only[if_true]at rc sm st;rw[KB]at sm;have hM:(wL (pB f bl) 64).length=64:=dG _ _;obtain⟨M,hMd⟩:∃M,M=wL (pB f bl) 64:=⟨_,rfl⟩;unfold yW at st rs;rw[<-hB,<-hMd]at st rs;rw[<-hMd]at sm rm hM
   have s0:=fun H=>toR (vm (l:=M) (s:=1) (s2:=1) (tk:= .ro) (tk2:= .ro) (rest:=[]) rfl (fun _=>rfl) (fun _=>rfl) (by omega) H)
   rw[List.append_nil,hM]at s0;by_cases hl:(W.length:Int)=64*f.b
   case neg=>
     rw[if_neg hl]at st rs;have st:pcx (cbL bP) 19 [.msl 1 2 0 n,.agg (bT f (mkT rt ns) bv rv)] H3=some (.plain (.tup [.sl 0 0 [] .z,.int .i64 2])):=st;have rs:pcx (cbL bP) 20 [.msl 1 2 0 n,.agg (bT f (mkT rt ns) bv rv)] H3=some (.plain (.tup [.sl 0 0 [] .z,.int .i64 2])):=rs
     have sp:∀H,pcx (cbL bP) 23 [.sl 0 0 [] .z,.sl 0 0 [] .z] H=some (.plain (.bool true)):=fun H=>toR (nG (l:=[]) (fun h=>absurd rfl h) (fun h=>absurd rfl h) (by simp) H)
     rw[hH3]at st rs;rw[im]at mp rc sm st rs rm;clear im m2 m3 I h1 h2 h3 hid hH3 g3;generalize mkT rt ns=T at*;unfold iB at*
     rcases cp with⟨k0,k1⟩|⟨k0,k1,k2,k3,k4⟩
     . rw[<-k1]at r0;simp(disch:=omega)only[wk,ae,↓reduceIte,reduceEqDiff,reduceEq,reduceAdd,reduceCtorEq,mp,ob,orr,of,c1,c2,c3,aJ,ct,Int.reduceToNat,Int.reduceAdd,Int.reduceSub,Int.reduceMul,Int.reduceNeg,Nat.reduceSub,Nat.reduceDiv,w1,w2,md,r0,wm,le1,le2,k0,rc,sm,st,rs,rm,s0,sp,jA,dw,aB,aI,aC,au,AV.hf,hfL]
     . obtain rfl:sw=1:=hns.resolve_right k0;simp(disch:=omega)only[wk,ae,↓reduceIte,reduceEqDiff,reduceEq,reduceAdd,reduceCtorEq,mp,ob,orr,of,c1,c2,c3,aJ,ct,Int.reduceToNat,Int.reduceAdd,Int.reduceSub,Int.reduceMul,Int.reduceNeg,Nat.reduceSub,Nat.reduceDiv,w1,w2,md,r0,wm,le1,le2,k0,<-hK,k1,k2,k3,k4,rc,sm,st,rs,rm,s0,sp,jA,dw,aB,aI,aC,au,AV.hf,hfL]
   rw[if_pos hl]at st rs
   have hBW:B+M.length<=W.length:=by omega
   have ap:=Ip W M B hBW;have ge:=uP W M B;have sl:=xx W M B;obtain⟨L,hL⟩:∃L,L=gg W B M:=⟨_,rfl⟩;rw[<-hL]at st rs ap ge sl;obtain⟨s,tk,es,hs,htk⟩:=mP 2 fA L;rw[es]at st rs
   have sp:=fun H=>toR (nG (l:=L) (s:=s) (s2:=s) (tk:=tk) (tk2:=tk) hs hs (by omega) H)
   have hid2:[AV.msl 1 2 0 n,.int .i64 (L.length:Nat),.sl s L.length (ah fA L) tk].map (bw H3 4)=[.sl 1 W.length (ah aD W) .ro,.int .i64 (L.length:Nat),.sl s L.length (ah fA L) tk]:=by
     rw[List.map_cons,List.map_cons,List.map_cons,List.map_nil,jw,<-hWl,zO g3];rfl
   have al:=toR (ug (H:=H3) (show(cbL tab).cy 24=true from rfl) hid2 (Dt W L .ro tk s (by intro h;rw[h]at hWl;simp at hWl;omega) (by omega) (by omega) hs (fun p hp=>by have:=ge p hp;omega)));obtain⟨V,hV⟩:∃V,V=apW W L:=⟨_,rfl⟩
   have hVl:V.length=n:=by rw[hV,uh,hWl]
   rw[<-hV]at al ap;obtain⟨R,hR⟩:∃R,R=V.drop (B+M.length):=⟨_,rfl⟩;rw[<-hR]at ap
   have dr:List.drop B (ah aD V)=ah aD M++ah aD R:=by rw[(ma V B).2,ap,aZ]
   have s1:=fun H=>toR (vm (l:=M) (s:=1) (s2:=1) (tk:= .ro) (tk2:= .ro) (rest:=ah aD R) (fN R) (fun _=>rfl) (fun _=>rfl) (by omega) H)
   rw[hM]at s1;rw[hWl]at al
   have lc:(ah aD V).length=n:=by rw[jT,hVl]
   obtain⟨B2,hB2'⟩:∃B2,B2=B+64:=⟨_,rfl⟩
   have w64:IntKind.i64.wrap ((B:Int)+64)=(B2:Int):=by rw[wrap_i64 (by omega) (by omega)];omega
   have le3:B<=B2:=by omega
   have le4:B2<=n:=by omega
   have le5:¬B=0:=by omega
   have le6:B2-B=64:=by omega
   have fh:=bR (f:=fA) (fun _=>rfl) L;rw[hH3]at st rs al;rw[im]at mp rc sm st rs rm al;clear im m2 m3 I h1 h2 h3 hid hid2 hH3 g3 ap ge hR hV es;generalize mkT rt ns=T at*;unfold iB at*
   rcases cp with⟨k0,k1⟩|⟨k0,k1,k2,k3,k4⟩
   . rw[<-k1]at r0;simp(disch:=omega)only[wk,ae,↓reduceIte,reduceEqDiff,reduceEq,reduceAdd,reduceCtorEq,mp,ob,orr,of,c1,c2,c3,aJ,ct,Int.reduceToNat,Int.reduceAdd,Int.reduceSub,Int.reduceMul,Int.reduceNeg,Nat.reduceSub,Nat.reduceDiv,w1,w2,md,r0,wm,le1,le2,k0,rc,sm,st,rs,rm,s0,s1,sp,al,w64,le3,le4,le5,le6,lc,dr,jA,dw,aB,aI,aC,au,AV.hf,hfL]
   . obtain rfl:sw=1:=hns.resolve_right k0;simp(disch:=omega)only[wk,ae,↓reduceIte,reduceEqDiff,reduceEq,reduceAdd,reduceCtorEq,mp,ob,orr,of,c1,c2,c3,aJ,ct,Int.reduceToNat,Int.reduceAdd,Int.reduceSub,Int.reduceMul,Int.reduceNeg,Nat.reduceSub,Nat.reduceDiv,w1,w2,md,r0,wm,le1,le2,k0,<-hK,k1,k2,k3,k4,rc,sm,st,rs,rm,s0,s1,sp,al,w64,le3,le4,le5,le6,lc,dr,jA,dw,aB,aI,aC,au,AV.hf,hfL]
theorem zb {x:List AV} {v v2:AV} (o:OkL [.int .i64,.int .i64,.int .i64,.int .i64,.slice [.int .i64],.slice [.int .i64],.slice [.int .i64]] x) (o1:OkS (.slice [.int .u64]) v) (o2:OkS (.int .i64) v2):(cbL bP).pc 6 [.agg x,v,v2]=some (.plain (.bool true)):=by
 obtain⟨f,bl,rl,fl,bv,rv,fv,e,hb,hr,hf,hz⟩:=IQ o;obtain⟨few,hw⟩:=M6 o1;obtain⟨n,rfl⟩:=rI o2;rw[e];exact tK hb hr hf hw n
end Go.Proofs.YtephfpdnhdpmkaaGreatDoor
