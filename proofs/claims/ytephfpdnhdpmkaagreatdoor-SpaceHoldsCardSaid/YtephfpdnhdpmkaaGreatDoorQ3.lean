/- TEXTS OF THE WALKS, put together: SQA SQ0 SPA PB1 SQ1 SQ2 SQ3 LU SQ4 SQ5 PB2 SQ6 SQ7 PB3 PB4 PB5 PB6 PB7 PB8 PH1 PH2 LHs. No condition but those stated. -/
import Derived.Test.YtephfpdnhdpmkaaGreatDoorQ2
import Derived.Test.YtephfpdnhdpmkaaGreatDoorAmOpen
open Int (reduceEq)
open Nat (reduceEqDiff reduceAdd reduceMul reduceLT reduceLeDiff)
set_option linter.all false
set_option maxHeartbeats 8000000
set_option maxRecDepth 1000000
namespace Go.Spc
open Go Go.Am
structure Rn where
 a:Int
 m:Int
def rnA (x:Rn):List AV:=[.int .i64 x.a,.int .i64 x.m]
instance : qO rnA 2 := ⟨fun _ => rfl⟩
def kB (out:List Rn) (b:Int):List Rn:=
 match out.getLast? with
 |some x=>if x.a+x.m=b then out.dropLast++[⟨x.a,x.m+1⟩] else out++[⟨b,1⟩]
 |none=>out++[⟨b,1⟩]
def cr:Int->List Int->List Rn
 |_,[]=>[]
 |e,b::r=>if e<b then⟨e,b-e⟩::cr (b+1) r else cr (b+1) r
def Oa (out:List Rn) (e:Int):Prop:=∀x,out.getLast? =some x->x.a+x.m<e
end Go.Spc
namespace Go.Proofs.YtephfpdnhdpmkaaGreatDoor
open Go Go.Am Go.Spc
theorem CR {out:List Rn} {b:Int} (h:∀x,out.getLast? =some x->x.a+x.m≠b):kB out b=out++[⟨b,1⟩]:=by
 unfold kB
 cases hl:out.getLast? with
 |none=>rfl
 |some x=>exact if_neg (h x hl)
theorem Cx {out:List Rn} {x:Rn} {b:Int} (h:x.a+x.m=b):kB (out++[x]) b=out++[⟨x.a,x.m+1⟩]:=by
 unfold kB;rw[List.getLast?_append];simp[h]
theorem qY:∀(k:Nat) (out:List Rn) (e:Int),Oa out e->(cT (fun _=>true) e k).foldl kB out=out++(if 0<k then [⟨e,(k:Int)⟩] else [])
 |0,out,e,_=>by simp[cT]
 | k+1,out,e,h=>by
   have ih:=qY k out e h;rw[nX,if_pos rfl,List.foldl_append,ih];simp only[List.foldl_cons,List.foldl_nil];rw[if_pos (Nat.succ_pos k)];by_cases hk:0<k
   . rw[if_pos hk,Cx (by rfl)];simp
   . have:k=0:=by omega
     subst this;rw[if_neg (by decide),List.append_nil,CR fun x hx=>by have:=h x hx;simp;omega];simp
theorem xK (P:Int->Bool):∀(k m:Nat) (a:Int),cT P a (k+m)=cT P a k++cT P (a+k) m
 |0,m,a=>by simp[cT]
 | k+1,m,a=>by
   rw[show k+1+m=(k+m)+1 by omega,cT,cT,xK P k m (a+1),show a+1+(k:Int)=a+((k+1:Nat):Int)by omega]
   split<;>simp
theorem sd:∀(bl:List Int) (out:List Rn) (d:Int) (k:Nat),bl.Pairwise (· < ·)->(∀x∈bl,d<=x/\x<d+k)->Oa out d→
   (cT (fun b=> !decide (b∈bl)) d k).foldl kB out=out++cr d (bl++[d+k])
 | [],out,d,k,_,_,h=>by
   have e:cT (fun b=> !decide (b∈([]:List Int))) d k=cT (fun _=>true) d k:=gT _ _ fun x _ _=>by simp
   rw[e,qY k out d h];simp only[List.nil_append,cr];by_cases hk:0<k
   . rw[if_pos hk,if_pos (by omega),show d+(k:Int)-d=k by omega]
   . rw[if_neg hk,if_neg (by omega)]
 | b::r,out,d,k,hs,hr,h=>by
   obtain⟨b1,b2⟩:=hr b (List.mem_cons_self ..);obtain⟨s1,s2⟩:=List.pairwise_cons.1 hs;obtain⟨j,hj⟩:=Int.eq_ofNat_of_zero_le (show 0<=b-d by omega);obtain⟨q,hq⟩:∃q,k=j+(q+1):=⟨k-j-1,by omega⟩
   have e1:cT (fun x=> !decide (x∈b::r)) d j=cT (fun _=>true) d j:=gT _ _ fun x h1 h2=>by
     have:¬x∈b::r:=fun hm=>by
       rcases List.mem_cons.1 hm with rfl|hm
       . omega
       . have:=s1 x hm;omega
     rw[decide_eq_false this];rfl
   have e2:cT (fun x=> !decide (x∈b::r)) (d+j) (q+1)=cT (fun x=> !decide (x∈r)) (b+1) q:=by
     rw[cT,show d+(j:Int)=b by omega,decide_eq_true (List.mem_cons_self ..)];rw[if_neg (by decide)]
     exact gT _ _ fun x h1 h2=>by
       by_cases hm:x∈r
       . rw[decide_eq_true hm,decide_eq_true (List.mem_cons_of_mem _ hm)]
       . rw[decide_eq_false hm,decide_eq_false];intro h3
         rcases List.mem_cons.1 h3 with rfl|h3
         . omega
         . exact hm h3
   rw[hq,xK,e1,e2,List.foldl_append,qY j out d h]
   have ih:=sd r (out++(if 0<j then [⟨d,(j:Int)⟩] else [])) (b+1) q s2 (fun x hx=>by have:=s1 x hx;have:=hr x (List.mem_cons_of_mem _ hx);omega) (fun x hx=>by
     by_cases h0:0<j
     . rw[if_pos h0,List.getLast?_append]at hx;simp at hx
       rw[<-hx];simp;omega
     . rw[if_neg h0,List.append_nil]at hx
       have:=h x hx;omega)
   rw[ih];simp only[List.cons_append,cr];rw[show d+((j+(q+1):Nat):Int)=b+1+(q:Int)by omega];by_cases h0:0<j
   . rw[if_pos h0,if_pos (by omega),show b-d=(j:Int)by omega];simp
   . rw[if_neg h0,if_neg (by omega)];simp
def cR (p:Nat->Bool):Rn->Nat->Nat->List Rn
 |r,_,0=>if r.m=0 then [] else [r]
 |r,k,f+1=>if p k then(if r.m=0 then cR p ⟨k,1⟩ (k+1) f else cR p ⟨r.a,r.m+1⟩ (k+1) f)else(if r.m=0 then cR p ⟨0,0⟩ (k+1) f else r::cR p ⟨0,0⟩ (k+1) f)
def dC (n:Int):Int->List Rn->List Rn
 |e,[]=>if e<n then [⟨e,n-e⟩] else []
 |e,r::l=>if e<r.a then⟨e,r.a-e⟩::dC n (r.a+r.m) l else dC n (r.a+r.m) l
def kY (p:Nat->Bool):Int->Nat->Nat->List Rn
 |e,k,0=>if e<k then [⟨e,k-e⟩] else []
 |e,k,f+1=>if p k then(if e<k then⟨e,k-e⟩::kY p ((k+1:Nat):Int) (k+1) f else kY p ((k+1:Nat):Int) (k+1) f)else kY p e (k+1) f
theorem s5 (p:Nat->Bool):∀(f k:Nat) (e:Int),dC ((k+f:Nat):Int) e (cR p ⟨0,0⟩ k f)=kY p e k f∧
   ∀a m:Int,0<m->a+m=k->dC ((k+f:Nat):Int) e (cR p ⟨a,m⟩ k f)=(if e<a then [⟨e,a-e⟩] else [])++kY p k k f
 | 0,k,e=>by
   refine⟨by simp[cR,dC,kY],fun a m hm h=> ?_⟩;rw[cR,if_neg (show¬(⟨a,m⟩:Rn).m=0 by simp only;omega),dC,dC,kY];simp only;rw[h,if_neg (show¬(k:Int)<((k+0:Nat):Int)by omega),if_neg (show¬(k:Int)<k by omega)]
   split<;>rfl
 | f+1,k,e=>by
   have ih:=fun e=>s5 p f (k+1) e
   rw[show k+(f+1)=k+1+f by omega];refine⟨?_,fun a m hm h=> ?_⟩
   . rw[cR,kY]
     cases hp:p k with
     | true=>
       rw[if_pos rfl,if_pos rfl,if_pos rfl,(ih e).2 k 1 (by omega) (by omega)]
       split<;>rfl
     |false=>rw[if_neg Bool.false_ne_true,if_neg Bool.false_ne_true,if_pos rfl,(ih e).1]
   . rw[cR,kY,if_neg (show¬(⟨a,m⟩:Rn).m=0 by simp only;omega)]
     cases hp:p k with
     | true=>
       rw[if_pos rfl,if_pos rfl,(ih e).2 a (m+1) (by omega) (by omega),if_neg (show¬(k:Int)<k by omega)]
     | false=>
       rw[if_neg Bool.false_ne_true,if_neg Bool.false_ne_true,if_neg (show¬(⟨a,m⟩:Rn).m=0 by simp only;omega),dC];simp only;rw[h,(ih k).1]
       split<;>rfl
theorem vN (p:Nat->Bool) (f:Nat):∀(d k:Nat),(∀i,k<=i->i<k+d->p i=true)->kY p k k (d+f)=kY p ((k+d:Nat):Int) (k+d) f
 |0,k,_=>by simp
 | d+1,k,h=>by
   have ih:=vN p f d (k+1) fun i h1 h2=>h i (by omega) (by omega)
   rw[show d+1+f=(d+f)+1 by omega,kY,if_pos (h k (Nat.le_refl _) (by omega)),if_neg (show¬(k:Int)<k by omega),ih,show k+1+d=k+(d+1)by omega]
theorem nI (p:Nat->Bool):∀(f k:Nat) (bl:List Int) (e:Int),bl.Pairwise (· < ·)->(∀x∈bl,(k:Int)<=x/\x<(k+f:Nat))->(∀i,k<=i->i<k+f->p i=decide ((i:Int)∈bl))->kY p e k f=cr e (bl++[((k+f:Nat):Int)])
 | 0,k,bl,e,_,h,_=>by
   cases bl with
   |nil=>simp[kY,cr]
   |cons x l=>have:=h x (List.mem_cons_self ..);omega
 | f+1,k,bl,e,hs,h,hp=>by
   have pk:=hp k (Nat.le_refl _) (by omega);rw[kY,show k+(f+1)=k+1+f by omega];by_cases hk:(k:Int)∈bl
   . rw[decide_eq_true hk]at pk;rw[if_pos pk]
     cases bl with
     |nil=>cases hk
     | cons x l=>
       obtain⟨s1,s2⟩:=List.pairwise_cons.1 hs
       have hx:x=k:=by
         rcases List.mem_cons.1 hk with e|e
         . exact e.symm
         . have:=s1 _ e;have:=h x (List.mem_cons_self ..);omega
       subst hx
       have ih:=nI p f (k+1) l ((k+1:Nat):Int) s2 (fun x hx=>by
         have:=s1 _ hx;have:=h x (List.mem_cons_of_mem _ hx)
         omega) (fun i h1 h2=>by
         rw[hp i (by omega) (by omega)];by_cases hm:(i:Int)∈l
         . rw[decide_eq_true hm,decide_eq_true (List.mem_cons_of_mem _ hm)]
         . rw[decide_eq_false hm,decide_eq_false];intro h3
           rcases List.mem_cons.1 h3 with h4|h4
           . omega
           . exact hm h4)
       rw[ih];rw[List.cons_append,cr];rfl
   . rw[decide_eq_false hk]at pk;rw[if_neg (by rw[pk];exact Bool.false_ne_true)]
     exact nI p f (k+1) bl e hs (fun x hx=>by
       have:=h x hx
       have:x≠k:=fun e=>hk (e▸hx)
       omega) fun i h1 h2=>hp i (by omega) (by omega)
theorem Jd (p:Nat->Bool) (d f:Nat) (bl:List Int) (hs:bl.Pairwise (· < ·)) (h:∀x∈bl,(d:Int)<=x/\x<(d+f:Nat)) (h1:∀i,i<d->p i=true) (h2:∀i,d<=i->i<d+f->p i=decide ((i:Int)∈bl)):
   dC ((d+f:Nat):Int) 0 (cR p ⟨0,0⟩ 0 (d+f))=cr d (bl++[((d+f:Nat):Int)]):=by
 have e:=(s5 p (d+f) 0 0).1;rw[Nat.zero_add]at e;rw[e]
 have e2:=vN p f d 0 fun i _ hi=>h1 i (by omega)
 rw[Nat.zero_add]at e2;rw[show((0:Nat):Int)=0 from rfl]at e2;rw[e2];exact nI p f d bl d hs h h2
def cV (p:Nat->Bool):Nat->Nat
 |0=>0
 |n+1=>cV p n+(if p n then 1 else 0)
theorem qC {p q:Nat->Bool}:∀n,(∀i,i<n->p i=q i)->cV p n=cV q n
 |0,_=>rfl
 |n+1,h=>by rw[cV,cV,qC n fun i hi=>h i (by omega),h n (by omega)]
theorem mU (p:Nat->Bool):∀n,cV p n<=n
 |0=>Nat.le_refl _
 | n+1=>by
   have:=mU p n;rw[cV]
   split<;>omega
theorem mK (p:Nat->Bool) (m:Nat):∀n,cV p (m+n)=cV p m+cV (fun i=>p (m+i)) n
 |0=>rfl
 | n+1=>by
   rw[<-Nat.add_assoc,cV,cV,mK p m n];omega
theorem vu (p:Nat->Bool) {j:Nat}:∀n,j<n->p j=true->cV p n=cV (fun i=>p i&& !decide (i=j)) n+1
 | n+1,h,hj=>by
   rw[cV,cV];by_cases e:j=n
   . subst e
     have:=qC (p:=p) (q:=fun i=>p i&& !decide (i=j)) j fun i hi=>by simp;intro _;omega
     simp[hj,this]
   . rw[vu p n (by omega) hj]
     have:(p n&& !decide (n=j))=p n:=by simp;intro _;omega
     rw[this];omega
theorem rj (p:Nat->Bool):∀n,(∀i,i<n->p i=false)->cV p n=0
 |0,_=>rfl
 |n+1,h=>by rw[cV,rj p n fun i hi=>h i (by omega),h n (by omega)];rfl
theorem vP (p:Nat->Bool):∀n,(∀i,i<n->p i=false)∨∃l,l<n/\p l=true/\∀i,i<l->p i=false
 |0=> .inl fun i h=>by omega
 | n+1=>by
   rcases vP p n with h|⟨l,h1,h2,h3⟩
   . cases hp:p n with
     |true=>exact .inr ⟨n,by omega,hp,h⟩
     | false=>
       refine .inl fun i hi=> ?_
       by_cases e:i=n
       . subst e;exact hp
       . exact h i (by omega)
   . exact .inr ⟨l,by omega,h2,h3⟩
theorem GN (p:Nat->Bool) {l:Nat} (hl:p l=true) (h:∀i,i<l->p i=false):∀n,l<n->wN p n=wN (fun i=>if i<l then true else if i=l then false else p i) n+1
 | n+1,hn=>by
   rw[wN,wN];by_cases e:n=l
   . subst e
     have e1:∀k,k<=n->wN p k=0:=fun k hk=>by rw[iC (q:=fun _=>false) k fun j hj=>h j (by omega),oW]
     have e2:∀k,k<=n->wN (fun i=>if i<n then true else if i=n then false else p i) k+1=2^k:=fun k=>by
       induction k with
       |zero=>intro _;rfl
       | succ k ih=>
         intro hk;have:=ih (by omega);rw[wN,if_pos (show(if k<n then true else if k=n then false else p k)=true by rw[if_pos (by omega)]),Nat.pow_succ];omega
     have:=e2 n (Nat.le_refl _);rw[e1 n (Nat.le_refl _),if_pos hl]
     have e3:(if n<n then true else if n=n then false else p n)=false:=by simp
     rw[e3,if_neg Bool.false_ne_true];omega
   . have:=GN p hl h n (by omega)
     have e3:(if n<l then true else if n=l then false else p n)=p n:=by rw[if_neg (by omega),if_neg e]
     rw[e3,this];omega
theorem JR (p:Nat->Bool) {l:Nat} (hl:p l=true) (h:∀i,i<l->p i=false) {n:Nat} (hn:l<n):wN p n&&& (wN p n-1)=wN (fun i=>p i&& !decide (i=l)) n:=by
 have e:=GN p hl h n hn
 have e2:wN p n-1=wN (fun i=>if i<l then true else if i=l then false else p i) n:=by omega
 rw[e2];apply Nat.eq_of_testBit_eq;intro i;rw[Nat.testBit_and,iv,iv,iv];by_cases hi:i<n
 . rw[decide_eq_true hi];by_cases h1:i<l
   . simp[h1,h i h1]
   . by_cases h2:i=l
     . subst h2;simp
     . simp[h1,h2]
 . rw[decide_eq_false hi];simp
theorem A9 (p:Nat->Bool) (n:Nat):wN p n=0↔∀i,i<n->p i=false:=by
 refine⟨fun h i hi=> ?_,fun h=>by rw[iC (q:=fun _=>false) n h,oW]⟩;have:=iv p i n;rw[h,Nat.zero_testBit,decide_eq_true hi,Bool.true_and]at this;exact this.symm
end Go.Proofs.YtephfpdnhdpmkaaGreatDoor
namespace Go.Proofs.YtephfpdnhdpmkaaGreatDoor
open Go Go.Am Go.Spc Go.Rec
theorem Ad {G:ab} {mo id n:Nat} {many:Int} {p:Nat->Bool} (B:BM G mo id n many p):(cbL tab).ic 74 [.ptr mo 0] G=some (.ret (.int .i64 many),G):=by
 have n0:=lS B;obtain⟨m,w,lo,hi,few⟩:=B;have:=cA (tab:=tab) (f:=74) (fi:=c74) (args:=[.ptr mo 0]) (H:=G) (P:=fun o G'=>o= .ret (.int .i64 many)/\G'=G) rfl rfl (by simp[c74]) (by decide) ?_
 . obtain⟨o,G',e1,rfl,rfl⟩:=this;exact e1
 unfold c74;have l1:(cbL tab).cj 75=false:=rfl;simp(disch:=omega)only[wk,ae,↓reduceIte,reduceEqDiff,reduceEq,reduceAdd,reduceCtorEq,m,BQ,aB l1,n0]
theorem NC (v:Nat) (H:ab):pcx (cbL tab) 74 [.ptr v 0] H=none:=aY rfl (bq (fi:=c74) rfl rfl)
theorem Nz {x:Int} (h0:0<=x) (h1:x<=18446744073709551615) (H:ab):pcx (cbL tab) 141 [.int .u64 x] H=some (.plain (.int .i64 (tzM x))):=by
 refine aU rfl (Ma (g:=tzC) rfl rfl ?_);unfold tzC;exact if_pos ⟨h0,h1⟩
theorem Gm {x y:Nat} (hx:x<18446744073709551616) {xo yo:X} {ek:EqK} (hy:y<18446744073709551616):bD .and ek xo yo (.int .u64 (x:Int)) (.int .u64 (y:Int))=some (.int .u64 ((x&&& y:Nat):Int)):=by
 have e:bD .and ek xo yo (.int .u64 (x:Int)) (.int .u64 (y:Int))=some (.int .u64 (IntKind.u64.wrap (BitVec.ofInt IntKind.u64.bits (x:Int)&&& BitVec.ofInt IntKind.u64.bits (y:Int)).toNat)):=rfl;rw[e,dD,dD]
 have h2:(BitVec.ofNat 64 x&&& BitVec.ofNat 64 y).toNat=x&&& y:=by
   rw[BitVec.toNat_and,BitVec.toNat_ofNat,BitVec.toNat_ofNat,Nat.mod_eq_of_lt hx,Nat.mod_eq_of_lt hy]
 have h3:x&&& y<=x:=Nat.and_le_left;show some (AV.int .u64 (IntKind.u64.wrap (BitVec.ofNat 64 x&&& BitVec.ofNat 64 y).toNat))=_
 rw[h2,wrap_u64 (by omega) (by omega)]
theorem C2 {p:Nat->Bool} {vb id N:Nat} {H:ab} (J:Nat->ab->Prop) (hN:N<=H.length) (hv:H[vb]? =some (.cells [.int .u64 (wN p 64:Nat)])) (hY:∀k x G,k<64->J k G->N<=G.length->∃G',(cbL tab).yl id [.int .i64 x] G=some (.ret (.bool true),G')/\N<=G'.length/\J (k+1) G') (j0:J 0 H):
   ∃G,(cbL tab).ic 140 [.yld id,.ptr vb 0] H=some (.ret (.tup []),G)/\J (cV p 64) G:=by
 have:=cA (tab:=tab) (f:=140) (fi:=JK) (args:=[.yld id,.ptr vb 0]) (H:=H) (P:=fun o G=>o= .ret (.tup [])/\J (cV p 64) G) rfl rfl (by simp[JK]) (by decide) ?_
 . obtain⟨o,G,e1,rfl,e2⟩:=this;exact⟨G,e1,e2⟩
 unfold JK;simp(disch:=omega)only[wk,ae,↓reduceIte,reduceEqDiff,reduceEq,reduceAdd,reduceCtorEq,hv]
 refine ba (fun(x:Nat×(Nat->Bool)) E df G=>x.1+cV x.2 64=cV p 64/\E 0= .yld id/\E 3= .int .u64 (wN x.2 64:Nat)/\J x.1 G/\N<=G.length/\df=[])
   (fun x=>cV x.2 64) (0,p) (by decide) (.inl rfl) ⟨Nat.zero_add _,rfl,rfl,j0,hN,rfl⟩ ?_
 intro ⟨k,q⟩ E df G ih hP;obtain⟨a1,E0,E3,jG,gN,hdf⟩:=hP;dsimp only at a1 E3 jG;subst hdf;have lt:=KT q;by_cases hz:wN q 64=0
 . have hc:=rj q 64 ((A9 q 64).1 hz);rw[hz]at E3;have E3:E 3= .int .u64 0:=E3;simp(disch:=omega)only[wk,ae,↓reduceIte,reduceEqDiff,reduceEq,reduceAdd,reduceCtorEq,E0,E3];rw[show cV p 64=k by omega];exact jG
 . obtain⟨l,h1,h2,h3⟩:=(vP q 64).resolve_left fun h=>hz ((A9 q 64).2 h)
   have cd:=vu q 64 h1 h2;have an:=JR q h2 h3 h1
   have n1:¬((wN q 64:Nat):Int)=0:=by omega
   have tz:=fun H=>Nz (x:=(wN q 64:Nat)) (by omega) (by omega) H
   obtain⟨G',y1,y2,y3⟩:=hY k (tzM (wN q 64:Nat)) G (by have:=mU p 64;omega) jG gN
   have w1:IntKind.u64.wrap ((wN q 64:Nat)-1:Int)=((wN q 64-1:Nat):Int):=by rw[wrap_u64 (by omega) (by omega)];omega
   have ua:=fun xo yo ek=>Gm lt (show wN q 64-1<18446744073709551616 by omega) (xo:=xo) (yo:=yo) (ek:=ek)
   rw[an]at ua;simp(disch:=omega)only[wk,ae,↓reduceIte,reduceEqDiff,reduceEq,reduceAdd,reduceCtorEq,E0,E3,n1,tz,y1,w1,ua];exact ih (k+1,fun i=>q i&& !decide (i=l)) _ _ _ (by dsimp only;omega) ⟨by dsimp only;omega,by simp only[en,↓reduceIte,reduceEqDiff,E0],by simp only[en,↓reduceIte,reduceEqDiff],y3,y2,rfl⟩
theorem F9 (x:Int) (H:ab):(cbL tab).ic 111 [.int .u64 x] H=some (.ret (.fn 140 [.ptr H.length 0]),H++[.cells [.int .u64 x]]):=by
 have:=cA (tab:=tab) (f:=111) (fi:=EA) (args:=[.int .u64 x]) (H:=H) (P:=fun o G=>o= .ret (.fn 140 [.ptr H.length 0])/\G=H++[.cells [.int .u64 x]]) rfl rfl (by simp[EA]) (by decide) ?_
 . obtain⟨o,G,e1,rfl,rfl⟩:=this;exact e1
 unfold EA;simp(disch:=omega)only[wk,ae,↓reduceIte,reduceEqDiff,reduceEq,reduceAdd,reduceCtorEq]
theorem M8 (a:AV) (H:ab):pcx (cbL tab) 111 [a] H=none:=aY rfl (bq (fi:=EA) rfl rfl)
theorem KK (p:Nat->Bool) (H:ab):pcx (cbL tab) 76 [.int .u64 (wN p 64:Nat)] H=some (.plain (.int .i64 (cV p 64:Nat))):=by
 refine aU rfl (bu (fi:=c76) rfl rfl (by simp[c76]) (by decide) ?_);unfold c76;rw[List.map_cons,List.map_nil,aD];have l1:(cbL tab).cj 111=false:=rfl;simp(disch:=omega)only[wk,ae,↓reduceIte,reduceEqDiff,reduceEq,reduceAdd,reduceCtorEq,M8,aB l1,F9];refine gJ (f:=140) (caps:=[.ptr 1 0]) (by simp only[en,↓reduceIte,reduceEqDiff,oz]) (fun tm ha=> ?_);obtain⟨bd,hbd⟩:∃bd:aC,bd= .block 1 (.region [ql 6 2,qn 7 .add (.t 6) (qi 1),qs 2 (.t 7)]):=⟨_,rfl⟩;rw[<-hbd];have h64:=mU p 64
 have hY:∀(k:Nat) (x:Int) (G:ab),k<64->G=[aj.cells [.int .i64 (k:Nat)],.cells [.int .u64 (wN p 64:Nat)],.cO,.loop 0 .normal tm [5] .skip bd]->4<=G.length->∃G',(cbL tab).yl 3 [.int .i64 x] G=some (.ret (.bool true),G')/\4<=G'.length/\G'=[aj.cells [.int .i64 ((k+1:Nat):Int)],.cells [.int .u64 (wN p 64:Nat)],.cO,.loop 0 .normal tm [5] .skip bd]:=by
   intro k x G hk hG h4;subst hG;have w1:IntKind.i64.wrap ((k:Int)+1)=(k:Int)+1:=wrap_i64 (by omega) (by omega);have key:=tX (tab:=tab) (id:=3) (P:=fun b G'=>b=true/\G'=[aj.cells [.int .i64 ((k+1:Nat):Int)],.cells [.int .u64 (wN p 64:Nat)],.cO,.loop 0 .normal tm [5] .skip bd]) (args:=[.int .i64 x]) (H:=[aj.cells [.int .i64 (k:Nat)],.cells [.int .u64 (wN p 64:Nat)],.cO,.loop 0 .normal tm [5] .skip bd]) (aO rfl) ha rfl (by decide) (by decide) (by rw[hbd];decide) (by decide) (by rw[hbd];decide) ?_
   . obtain⟨b,G',y1,rfl,rfl⟩:=key;exact⟨_,y1,by simp,rfl⟩
   simp(disch:=omega)only[wk,ae,↓reduceIte,reduceEqDiff,reduceEq,reduceAdd,reduceCtorEq,fN,gL];refine⟨rfl,rfl,_,_,_,_,_,aO rfl, ?_⟩;generalize hL:aj.loop 1 .normal tm [5] .skip bd=lo;rw[hbd]at hL ⊢;simp(disch:=omega)only[wk,ae,↓reduceIte,reduceEqDiff,reduceEq,reduceAdd,reduceCtorEq,w1];refine⟨rfl,1,.normal,tm,[5],.skip,_,aO (by rw[<-hL];rfl),rfl, ?_⟩;simp
 obtain⟨G,g1,g2⟩:=C2 (p:=p) (vb:=1) (id:=3) (N:=4) (H:=[.cells [.int .i64 0],.cells [.int .u64 (wN p 64:Nat)],.cO,.loop 0 .normal tm [5] .skip bd]) (fun k G=>G=[.cells [.int .i64 (k:Nat)],.cells [.int .u64 (wN p 64:Nat)],.cO,.loop 0 .normal tm [5] .skip bd]) (by simp) rfl hY rfl;subst g2;refine⟨_,_,0,.normal,tm,[5],.skip,bd,g1,aO rfl,by decide,rfl, ?_⟩;simp(disch:=omega)only[wk,ae,↓reduceIte,reduceEqDiff,reduceEq,reduceAdd,reduceCtorEq];rw[eL (k:=2) rfl];simp(disch:=omega)only[wk,ae,↓reduceIte,reduceEqDiff,reduceEq,reduceAdd,reduceCtorEq,aJ,aP,aE,aA,AV.hf,hfL]
theorem uB (x:Rn):hfL (rnA x)=true:=rfl
def PB (l:List Rn) (v:AV):Prop:=∃s tk,v= .sl s l.length (ah rnA l) tk/\(l≠[]->s=2)/\tk.hf=true
def Pz (G:ab) (v:AV) (l:List Rn):Prop:=(v= .sl 0 0 [] .z/\l=[])∨(l≠[]/\∃id,v= .rsl 2 id l.length/\G[id]? =some (.cells (ah rnA l)))
theorem Bk (pre:List Rn) (x:Rn) (r:List Rn):List.drop (pre.length*2) (ah rnA (pre++x::r))= .int .i64 x.a:: .int .i64 x.m::ah rnA r:=by
 rw[ez,aK];rfl
def Ps (l:List Int):List Rn:=l.foldl kB []
theorem Ok:∀l:List Int,au (ah bT l)=true
 |[]=>rfl
 |x::l=>by rw[aK,dH,Ok l];rfl
theorem zI {s:Nat} {tk:Tk} (h:tk.hf=true):∃s' tk',(tk'= .z/\s'=0∨tk'= .e/\s'=1)/\∀H,pcx (cbL tab) 39 [.sl s 0 [] tk] H=some (.plain (.sl s' 0 [] tk')):=by
 cases hz:tk.isZ with
 | true=>
   refine⟨0,.z,.inl ⟨rfl,rfl⟩,fun H=>aU rfl (bu (fi:=c39) rfl ?_ (by simp[c39]) (by decide) ?_)⟩
   . simp only[bV,List.map_cons,List.map_nil,hfT h,c39,hfL,AV.hf,h,Bool.and_self]
   unfold c39;rw[List.map_cons,List.map_nil,hfT h];simp(disch:=omega)only[wk,ae,↓reduceIte,reduceEqDiff,reduceEq,reduceAdd,reduceCtorEq,slZ,hz,Dy]
 | false=>
   refine⟨1,.e,.inr ⟨rfl,rfl⟩,fun H=>aU rfl (bu (fi:=c39) rfl ?_ (by simp[c39]) (by decide) ?_)⟩
   . simp only[bV,List.map_cons,List.map_nil,hfT h,c39,hfL,AV.hf,h,Bool.and_self]
   unfold c39;rw[List.map_cons,List.map_nil,hfT h];simp(disch:=omega)only[wk,ae,↓reduceIte,reduceEqDiff,reduceEq,reduceAdd,reduceCtorEq,slZ,hz,wo (z:=1) (by decide),F8]
theorem Cw {l:List Int} (hl:l.length<=1000) (h0:l≠[]) {tk:Tk} (h:tk.hf=true) (hz:tk≠ .z) (H:ab):pcx (cbL tab) 39 [.sl 1 l.length (ah bT l) tk] H=some (.fresh 1 l.length (ah bT l)):=by
 have hh:=bJ (f:=bT) (fun _=>rfl) l
 have n0:l.length≠0:=fun e=>h0 (List.eq_nil_of_length_eq_zero e)
 have hz:tk.isZ=false:=by cases tk<;>first|rfl|exact absurd rfl hz
 refine aU rfl (bu (fi:=c39) rfl ?_ (by simp[c39]) (by decide) ?_)
 . simp only[bV,List.map_cons,List.map_nil,hfT h,c39,hfL,AV.hf,h,hh,Bool.and_self]
 unfold c39;rw[List.map_cons,List.map_nil,hfT h];have own0:Own ([]:ab) 1 (.sl 1 0 [] .e) 0 []:= .inl ⟨.inr rfl,rfl,rfl⟩;simp(disch:=omega)only[wk,ae,↓reduceIte,reduceEqDiff,reduceEq,reduceAdd,reduceCtorEq,slZ,hz];refine bR own0 (by omega) (by omega) (by omega) n0 (by rw[eN]) (Ok _) (fun H2 q1 q2 q3=> ?_);simp only[Nat.zero_add,List.nil_append]at q1 ⊢;simp(disch:=omega)only[wk,ae,↓reduceIte,reduceEqDiff,reduceEq,reduceAdd,reduceCtorEq];rw[<-jw (f:=bT) (sz:=1) h0];exact gY (fun _=>rfl) q1 (fun e=>absurd e h0)
theorem DM {l:List Int} {v:AV} (hv:eo l v) (hz:l≠[]->∀s n cs,v≠ .sl s n cs .z) (hl:l.length<=1000) (x:Int):
   ((∀H,pcx (cbL tab) 39 [v] H=some (.plain (.sl 0 0 [] .z)))/\∀h G g,mD h 1 8 [] (.sl 0 0 [] .z) (.sl 1 1 [.int .i64 x] .ro) G g=some (.sl 1 (l.length+1) (ah bT (l++[x])) (.own g),some (.tok 1)))∨
   ((∀H,pcx (cbL tab) 39 [v] H=some (.plain (.sl 1 0 [] .e)))/\∀h G g,mD h 1 8 [] (.sl 1 0 [] .e) (.sl 1 1 [.int .i64 x] .ro) G g=some (.sl 1 (l.length+1) (ah bT (l++[x])) (.own g),some (.tok 1)))∨
   ((∀H,pcx (cbL tab) 39 [v] H=some (.fresh 1 l.length (ah bT l)))/\∀(H:ab) a g,mD (H.length+1) 1 8 [] (.sl 1 l.length (ah bT l) (.own (H.length+1))) (.sl 1 1 [.int .i64 x] .ro) (H++[a]++[.tok 1]) g=some (.sl 1 (l.length+1) (ah bT (l++[x])) (.own g),some (.tok 1))):=by
 obtain⟨s,tk,rfl,hs,ht⟩:=hv;by_cases h0:l=[]
 . subst h0;obtain⟨s',tk',hz',cp⟩:=zI (s:=s) ht
   rcases hz' with⟨rfl,rfl⟩|⟨rfl,rfl⟩
   . exact .inl ⟨cp,fun h G g=>rfl⟩
   . exact .inr (.inl ⟨cp,fun h G g=>rfl⟩)
 . have:=hs h0;subst this;refine .inr (.inr ⟨fun H=>Cw hl h0 ht (fun e=>hz h0 1 _ _ (by rw[e])) H,fun H a g=> ?_⟩)
   have hg:(H++[a]++[aj.tok 1])[H.length+1]? =some (.tok 1):=by
     rw[List.append_assoc,List.getElem?_append_right (by omega),show H.length+1-H.length=1 by omega];rfl
   have hr:Ea 1 8 [] (.sl 1 1 [.int .i64 x] .ro)=some (1,[.int .i64 x]):=rfl;simp only[mD,mz,hr,hg];rw[if_pos ⟨Nat.le_refl _,trivial,trivial,by omega,by omega,by omega⟩,aZ];rfl
theorem BU {f:Frm} {rt:Tv} {ns bl rl:List Int} {bv rv:AV} (I:Img f rt ns bl rl bv rv) (hz:bl≠[]->∀s n cs,bv≠ .sl s n cs .z) (ok:okI f bl rl=true) {vb id N:Nat} {H:ab} (J:List Rn->ab->Prop) (Dn:ab->Prop)
   (hN:N<=H.length) (hvH:H[vb]? =some (.cells (bW f (mkT rt ns) bv rv)))
   (hY:∀pre x post G,cr (dF f) (bl++[f.b])=pre++x::post->J pre G->N<=G.length->∃b G',(cbL aW).yl id [.agg (rnA x)] G=some (.ret (.bool b),G')/\N<=G'.length/\if b=true then J (pre++[x]) G' else Dn G')
   (j0:∀L,J [] (H++L)):
   ∃G,(cbL aW).ic 37 [.yld id,.ptr vb 0] H=some (.ret (.tup []),G)/\(J (cr (dF f) (bl++[f.b])) G∨Dn G):=by
 have:=cA (tab:=aW) (f:=37) (fi:=c37) (args:=[.yld id,.ptr vb 0]) (H:=H) (P:=fun o G=>o= .ret (.tup [])/\(J (cr (dF f) (bl++[f.b])) G∨Dn G)) rfl rfl (by simp[c37]) (by decide) ?_
 . obtain⟨o,G,e1,rfl,e2⟩:=this;exact⟨G,e1,e2⟩
 have so:=fun H=>uw I H
 rw[ok]at so;simp only[if_true]at so;have hf:=I.fo;unfold okF at hf;have b64:=I.b64;have o1:=I.b.one;have o2:=I.r.one;have ca:=DM I.b hz (by have:=I.lb;omega) f.b;have rm:=(jA ((Bool.and_eq_true _ _).mp (show(iN (9+f.i/4+f.r/4+1) f.b none bl&&iN 1 (f.r+1) none rl)=true from ok)).1);have lb:=I.lb;obtain⟨L,hL⟩:∃L,L=bl++[f.b]:=⟨_,rfl⟩
 have lL:L.length=bl.length+1:=by rw[hL];simp
 have hLm:∀x∈L,0<=x/\x<=64:=fun x hx=>by
   rw[hL]at hx
   rcases List.mem_append.1 hx with hx|hx
   . have:=rm.1 x hx;omega
   . rw[List.mem_singleton.1 hx];omega
 rw[<-hL]at hY ⊢;clear I;generalize mkT rt ns=T at*;have im:bW f T bv rv=[.int .i64 f.b,.int .i64 f.i,.int .i64 f.r,.int .i64 f.t,.int .u64 5,.int .u64 6,.int .i64 9,.int .i64 (9+f.i/4),.int .i64 (9+f.i/4+f.r/4),.int .i64 (dF f),.sl 7 T.length (ah tvC T) .ro,bv,rv]:=rfl
 have g0:∀L:List aj,(H++L)[H.length]? =L[0]? :=fun L=>by rw[List.getElem?_append_right (Nat.le_refl _),Nat.sub_self]
 have t0:∀(L:List aj) (o:aj),(H++L).set H.length o=H++L.set 0 o:=fun L o=>by rw[List.set_append_right _ _ (Nat.le_refl _),Nat.sub_self]
 unfold c37;rw[im]at so hvH
 rcases ca with⟨cp,ap⟩|⟨cp,ap⟩|⟨cp,ap⟩<;>have cp:=fun H=>toR (cp H)
 all_goals simp(disch:=omega)only[wk,ae,↓reduceIte,reduceEqDiff,reduceEq,reduceAdd,reduceCtorEq,so,hvH,o1,o2,g0,t0,cp,ap,ma,Int.reduceToNat,Int.reduceAdd,Int.reduceSub,Int.reduceMul,Int.reduceNeg,Nat.reduceSub,Nat.reduceDiv]
 all_goals
   refine ba (fun(x:List Int×List Int) E df G=>L=x.1++x.2/\(∃e G1,E 5= .int .i64 e/\cr (dF f) L=G1++cr e x.2/\J G1 G/\0<=e/\e<=65)/\N<=G.length/\E 0= .yld id/\(∃g,E 29= .sl 1 L.length (ah bT L) (.own g))/\E 30= .int .i64 ((L.length:Nat):Int)/\E 31= .int .i64 ((x.1.length:Nat):Int)/\df=[])
     (fun x=>x.2.length) ([],L) (by decide) (.inl rfl) ⟨rfl,⟨dF f,[],rfl,rfl,by(try unfold lV);rw[List.append_assoc];exact j0 _,by unfold dF;omega,by unfold dF;omega⟩,by(try unfold lV);simp;omega,rfl,⟨_,by rw[lL,hL];rfl⟩,by rw[lL];rfl,rfl,rfl⟩ ?_
   intro ⟨pre,suf⟩ E df G ih hP;obtain⟨a1,⟨e,G1,E5,gp,jG,e0,e65⟩,gN,E0,⟨g,E29⟩,E30,E31,hdf⟩:=hP;dsimp only at a1 gp E31;subst hdf
   have la:L.length=pre.length+suf.length:=by rw[a1,List.length_append]
   cases suf with
   | nil=>
     have n1:¬(pre.length:Int)<(L.length:Int):=by rw[la];simp
     simp(disch:=omega)only[wk,ae,↓reduceIte,reduceEqDiff,reduceEq,reduceAdd,reduceCtorEq,E0,E5,E29,E30,E31,n1];rw[gp];simp only[cr,List.append_nil];exact .inl jG
   | cons b r=>
     rw[List.length_cons]at la
     have n1:(pre.length:Int)<(L.length:Int):=by omega
     have d1:=p7 pre b r;rw[<-a1]at d1;obtain⟨b0,b1⟩:=hLm b (by rw[a1];simp);have w1:IntKind.i64.wrap (b+1)=b+1:=wrap_i64 (by omega) (by omega);rw[cr]at gp;by_cases hb:e<b
     . rw[if_pos hb]at gp;have w2:IntKind.i64.wrap (b-e)=b-e:=wrap_i64 (by omega) (by omega);obtain⟨c,G',y1,y2,y3⟩:=hY G1 ⟨e,b-e⟩ (cr (b+1) r) G gp jG gN;have y1:(cbL aW).yl id [.agg [.int .i64 e,.int .i64 (b-e)]] G=some (.ret (.bool c),G'):=y1
       cases c with
       | false=>
         rw[if_neg Bool.false_ne_true]at y3;simp(disch:=omega)only[wk,ae,↓reduceIte,reduceEqDiff,reduceEq,reduceAdd,reduceCtorEq,E0,E5,E29,E30,E31,n1,d1,hb,w1,w2,y1,Int.reduceToNat,Int.reduceAdd,Int.reduceSub,Int.reduceMul,Int.reduceNeg,Nat.reduceSub,Nat.reduceDiv,aI,cw];exact .inr y3
       | true=>
         rw[if_pos rfl]at y3;simp(disch:=omega)only[wk,ae,↓reduceIte,reduceEqDiff,reduceEq,reduceAdd,reduceCtorEq,E0,E5,E29,E30,E31,n1,d1,hb,w1,w2,y1,Int.reduceToNat,Int.reduceAdd,Int.reduceSub,Int.reduceMul,Int.reduceNeg,Nat.reduceSub,Nat.reduceDiv,aI,cw];exact ih (pre++[b],r) _ _ _ (by simp) ⟨by simp[a1],⟨b+1,G1++[⟨e,b-e⟩],by simp only[en,↓reduceIte,reduceEqDiff],by rw[gp];simp,y3,by omega,by omega⟩,y2,by simp only[en,↓reduceIte,reduceEqDiff,E0],⟨g,by simp only[en,↓reduceIte,reduceEqDiff,E29]⟩,by simp only[en,↓reduceIte,reduceEqDiff,E30],by simp only[en,↓reduceIte,reduceEqDiff],rfl⟩
     . rw[if_neg hb]at gp;simp(disch:=omega)only[wk,ae,↓reduceIte,reduceEqDiff,reduceEq,reduceAdd,reduceCtorEq,E0,E5,E29,E30,E31,n1,d1,hb,w1,Int.reduceToNat,Int.reduceAdd,Int.reduceSub,Int.reduceMul,Int.reduceNeg,Nat.reduceSub,Nat.reduceDiv,aI,cw];exact ih (pre++[b],r) _ _ _ (by simp) ⟨by simp[a1],⟨b+1,G1,by simp only[en,↓reduceIte,reduceEqDiff],gp,jG,by omega,by omega⟩,gN,by simp only[en,↓reduceIte,reduceEqDiff,E0],⟨g,by simp only[en,↓reduceIte,reduceEqDiff,E29]⟩,by simp only[en,↓reduceIte,reduceEqDiff,E30],by simp only[en,↓reduceIte,reduceEqDiff],rfl⟩
theorem se {v:AV} (h:OkS (.int .i64) v):∃n:Int,v= .int .i64 n:=by
 cases h;exact⟨_,rfl⟩
theorem ET:∀(rows:List (List AV)),(∀r∈rows,r.length=1)->(∀r∈rows,∀(i:Nat) (s:Sh) (v:AV),([.int .i64]:List Sh)[i]? =some s->r[i]? =some v->OkS s v)->∃l:List Int,rows.flatten=ah bT l/\rows.length=l.length
 |[],_,_=>⟨[],rfl,rfl⟩
 | r::rows,h1,h2=>by
   obtain⟨l,e1,e2⟩:=ET rows (fun x hx=>h1 x (List.mem_cons_of_mem _ hx)) (fun x hx=>h2 x (List.mem_cons_of_mem _ hx));have hr:=h1 r (List.mem_cons_self ..)
   match r,hr with
   | [v],_=>
     obtain⟨n,rfl⟩:=se (h2 [v] (List.mem_cons_self ..) 0 (.int .i64) v rfl rfl);refine⟨n::l, ?_,by rw[List.length_cons,List.length_cons,e2]⟩
     rw[List.flatten_cons,e1];rfl
theorem A6 {v:AV} (h:OkS (.slice [.int .i64]) v):∃l,eo l v:=by
 cases h with
 |slnil=>exact⟨[],1,.z,rfl,fun _=>rfl,rfl⟩
 | sl _ rows h hl hr=>
   obtain⟨l,e1,e2⟩:=ET rows hl hr;exact⟨l,1,.ro,by rw[e1,e2];rfl,fun _=>rfl,rfl⟩
def NzR (l:List Int) (v:AV):Prop:=l≠[]->∀s n cs,v≠ .sl s n cs .z
theorem Hn {v:AV} (h:OkS (.slice [.int .i64]) v):∃l,eo l v/\NzR l v:=by
 cases h with
 |slnil=>exact⟨[],⟨1,.z,rfl,fun _=>rfl,rfl⟩,fun h=>absurd rfl h⟩
 | sl _ rows h hl hr=>
   obtain⟨l,e1,e2⟩:=ET rows hl hr;exact⟨l,⟨1,.ro,by rw[e1,e2];rfl,fun _=>rfl,rfl⟩,fun _ s n cs e=>by cases e⟩
theorem J3 {x:List AV} (o:OkL [.int .i64,.int .i64,.int .i64,.int .i64,.slice [.int .i64],.slice [.int .i64],.slice [.int .i64]] x):∃f bl rl fl bv rv fv,.agg x=lI f bv rv fv/\eo bl bv/\eo rl rv/\eo fl fv/\NzR bl bv:=by
 obtain⟨hl,ho⟩:=o
 match x,hl with
 | [a,b,c,d,e,f,g],_=>
   obtain⟨n0,rfl⟩:=se (ho 0 _ a rfl rfl);obtain⟨n1,rfl⟩:=se (ho 1 _ b rfl rfl);obtain⟨n2,rfl⟩:=se (ho 2 _ c rfl rfl);obtain⟨n3,rfl⟩:=se (ho 3 _ d rfl rfl);obtain⟨bl,hb,hz⟩:=Hn (ho 4 _ e rfl rfl);obtain⟨rl,hr⟩:=A6 (ho 5 _ f rfl rfl);obtain⟨fl,hf⟩:=A6 (ho 6 _ g rfl rfl);exact⟨⟨n0,n1,n2,n3⟩,bl,rl,fl,e,f,g,rfl,hb,hr,hf,hz⟩
def OM:aC:=(.region [qo 11 (.alloc [(.int .i64 0),(.int .i64 0)]),qe (.store 2 (.t 11) (.t 34))])
def O2:aC:=(.block 3 (.seq (.seq (.drawn [ql 35 10,ql 36 7,qo 37 (.len 0 (.t 36)),qn 38 .geq (.t 35) (.t 37),qm 39 38,qg 40 (.load 2 true (.t 11)) 39 false,qg 41 (.load 1 false (.t 7)) 39 false,qg 42 (.load 1 false (.t 10)) 39 false,qg 43 (.ixa 2 (.t 41) (.t 42)) 39 false,qg 44 (.load 2 true (.t 43)) 39 false] [qg 45 (.bin .neq (.struct [0,0]) (.t 40) (.t 44)) 39 false,qk 46 39 qt (.t 45)]) (.cond (.t 46) (.seq (.region [qs 4 qz]) .ret) .skip)) (.seq (.region [ql 47 10,qn 48 .add (.t 47) (qi 1),qs 10 (.t 48)]) (.seq (.region [ql 49 9,qn 50 .eql (.t 49) (qi 0),qm 51 50,qg 52 (.load 1 false (.t 10)) 51 true,qg 53 (.load 1 false (.t 3)) 51 true,qg 54 (.bin .geq .num (.t 52) (.t 53)) 51 true,qk 55 51 (.t 54) qz]) (.cond (.t 55) (.exit 2) .skip)))))
structure RuS (C:List AV) (W:List Rn) (w:AV) (many t:Int) (N vb mb wb tb nb:Nat) (lo:aj) (j:Nat) (G:ab):Prop where
 v:G[vb]? =some (.cells C)
 m:G[mb]? =some (.cells [.int .i64 many])
 w:G[wb]? =some (.cells [w])
 t:G[tb]? =some (.cells [.int .i64 t])
 n:G[nb]? =some (.cells [.int .i64 (j:Int)])
 d:G[N]? =some .cO
 l:G[N+1]? =some lo
theorem xz (a m:Int):aX [0,0] [AV.int .i64 a,.int .i64 m] [.int .i64 0,.int .i64 0]=some (decide (a=0)&&decide (m=0)):=by
 by_cases h:a=0
 . by_cases h2:m=0
   . subst h h2;rfl
   . have hb:(m==0)=false:=by simpa using h2
     subst h;simp[aX,bn,hb,h2]
 . have hb:(a==0)=false:=by simpa using h
   simp[aX,bn,hb,h]
theorem Mw {xo yo:X} {r:Rn} (h:r.m=0->r.a=0):bD .eql (.struct [0,0]) xo yo (.agg [.int .i64 r.a,.int .i64 r.m]) (.agg [.int .i64 0,.int .i64 0])=some (.bool (decide (r.m=0))):=by
 show(eqV (.struct [0,0]) (.agg [.int .i64 r.a,.int .i64 r.m]) (.agg [.int .i64 0,.int .i64 0])).map AV.bool=_
 have e:eqV (.struct [0,0]) (.agg [.int .i64 r.a,.int .i64 r.m]) (.agg [.int .i64 0,.int .i64 0])=aX [0,0] [.int .i64 r.a,.int .i64 r.m] [.int .i64 0,.int .i64 0]:=rfl;rw[e,xz];by_cases h0:r.m=0
 . rw[h h0,h0];rfl
 . rw[decide_eq_false h0,Bool.and_false];rfl
theorem Ae {xo yo:X} {r:Rn} (h:r.m=0->r.a=0):bD .neq (.struct [0,0]) xo yo (.agg [.int .i64 r.a,.int .i64 r.m]) (.agg [.int .i64 0,.int .i64 0])=some (.bool (!decide (r.m=0))):=by
 show(eqV (.struct [0,0]) (.agg [.int .i64 r.a,.int .i64 r.m]) (.agg [.int .i64 0,.int .i64 0])).map (fun b=>AV.bool (!b))=_
 have e:eqV (.struct [0,0]) (.agg [.int .i64 r.a,.int .i64 r.m]) (.agg [.int .i64 0,.int .i64 0])=aX [0,0] [.int .i64 r.a,.int .i64 r.m] [.int .i64 0,.int .i64 0]:=rfl;rw[e,xz];by_cases h0:r.m=0
 . rw[h h0,h0];rfl
 . rw[decide_eq_false h0,Bool.and_false];rfl
def vJ (id N:Nat) (L:List Rn) (J:List Rn->ab->Prop) (Dn:ab->Prop):Prop:=
 ∀pre x post G,L=pre++x::post->J pre G->N<=G.length->∃b G',(cbL aW).yl id [.agg (rnA x)] G=some (.ret (.bool b),G')/\G.length<=G'.length/\(∀i,N<=i->i<G.length->G'[i]? =G[i]?)/\if b=true then J (pre++[x]) G' else Dn G'
theorem Da {n:Nat} {many:Nat} {p:Nat->Bool} {mo id vb yid N:Nat} {H:ab} (J:List Rn->ab->Prop) (Dn:ab->Prop)
   (hN:N<=H.length) (hv:∀pre G,J pre G->G[vb]? =some (.cells [.ptr mo 0])/\BM G mo id n many p)
   (hA:∀pre G G',J pre G->(∀i,i<N->G'[i]? =G[i]?)->J pre G') (hD:∀G G',Dn G->(∀i,i<N->G'[i]? =G[i]?)->Dn G')
   (hY:vJ yid N (cR p ⟨0,0⟩ 0 many) J Dn) (j0:J [] H):
   ∃G,(cbL aW).ic 80 [.yld yid,.ptr vb 0] H=some (.ret (.tup []),G)/\(J (cR p ⟨0,0⟩ 0 many) G∨Dn G):=by
 have:=cA (tab:=aW) (f:=80) (fi:=c80) (args:=[.yld yid,.ptr vb 0]) (H:=H) (P:=fun o G=>o= .ret (.tup [])/\(J (cR p ⟨0,0⟩ 0 many) G∨Dn G)) rfl rfl (by simp[c80]) (by decide) ?_
 . obtain⟨o,G,e1,rfl,e2⟩:=this;exact⟨G,e1,e2⟩
 obtain⟨S,hS⟩:∃S,S=cR p ⟨0,0⟩ 0 many:=⟨_,rfl⟩;rw[<-hS]at hY ⊢
 have j1:J [] (H++[.cells [.int .i64 0,.int .i64 0]]):=hA _ _ _ j0 fun i hi=>List.getElem?_append_left (by omega)
 obtain⟨v1,B1⟩:=hv _ _ j1;have ln:=ze (Ad B1)
 have pl:∀(v:Nat) (H:ab),pcx (cbL aW) 74 [.ptr v 0] H=none:=fun v H=>aY rfl (bq (fi:=c74) rfl rfl)
 have l1:(cbL aW).cj 74=false:=rfl;have l2:(cbL aW).cj 79=false:=rfl
 have ph:∀(id n:Nat) (a:AV) (H:ab),pcx (cbL aW) 79 [.msl 1 id 0 n,a] H=none:=fun id n a H=>aY rfl (bq (fi:=c79) rfl rfl)
 have hi:=B1.hi;have few:=B1.few;unfold c80;simp(disch:=omega)only[wk,ae,↓reduceIte,reduceEqDiff,reduceEq,reduceAdd,reduceCtorEq,v1,pl,aB l1,ln]
 refine ba (fun(k:Nat) E df G=>k<=many/\E 0= .yld yid/\E 1= .ptr vb 0/\E 3= .ptr H.length 0/\E 6= .int .i64 (many:Int)/\E 7= .int .i64 (k:Int)/\df=[]/\H.length+1<=G.length∧
     ∃(r:Rn) (pre:List Rn),S=pre++cR p r k (many-k)/\J pre G/\G[H.length]? =some (.cells [.int .i64 r.a,.int .i64 r.m])/\(r.m=0->r.a=0)/\0<=r.m/\r.m<=k)
   (fun k=>many-k) 0 (by decide) (.inl rfl) ⟨Nat.zero_le _,rfl,rfl,rfl,rfl,rfl,rfl,by simp,⟨0,0⟩,[],hS,j1,by simp,fun _=>rfl,Int.le_refl _,Int.le_refl _⟩ ?_
 intro k E df G ih hP;obtain⟨hk,E0,E1,E3,E6,E7,hdf,gl,r,pre,e1,jG,gr,r0,r1,r2⟩:=hP;subst hdf;obtain⟨vG,BG⟩:=hv _ _ jG
 have is0:=fun xo yo=>Mw (xo:=xo) (yo:=yo) r0
 have not0:=fun xo yo=>Ae (xo:=xo) (yo:=yo) r0
 have st1:∀o:aj,(G.set H.length o)[H.length]? =some o:=fun o=>List.getElem?_set_self (by omega)
 have jst:∀pre o,J pre G->J pre (G.set H.length o):=fun pre o h=>hA _ _ _ h fun i hi=>List.getElem?_set_ne (by omega)
 by_cases hkm:k<many
 . have n1:(k:Int)<(many:Int):=by omega
   have hs:=ze (FP BG (k:=k) (by omega));have mG:=BG.m;obtain⟨f,hf⟩:∃f,many-k=f+1:=⟨many-k-1,by omega⟩
   have hf2:f=many-(k+1):=by omega
   rw[hf,cR]at e1
   cases hp:p k with
   | true=>
     rw[hp]at hs e1;rw[if_pos rfl]at e1;by_cases hm:r.m=0
     . rw[if_pos hm,hf2]at e1;simp(disch:=omega)only[wk,ae,↓reduceIte,reduceEqDiff,reduceEq,reduceAdd,reduceCtorEq,E0,E1,E3,E6,E7,n1,vG,mG,gr,ph,aB l2,hs,is0,not0,hm,st1];exact ih (k+1) _ _ _ (by omega) ⟨by omega,by simp only[en,↓reduceIte,reduceEqDiff,E0],by simp only[en,↓reduceIte,reduceEqDiff,E1],by simp only[en,↓reduceIte,reduceEqDiff,E3],by simp only[en,↓reduceIte,reduceEqDiff,E6],by simp only[en,↓reduceIte,reduceEqDiff],rfl,by simp;omega,⟨k,1⟩,pre,e1,jst _ _ jG,st1 _,by simp,by simp,by simp;omega⟩
     . rw[if_neg hm,hf2]at e1;have w1:IntKind.i64.wrap (r.m+1)=r.m+1:=wrap_i64 (by omega) (by omega);simp(disch:=omega)only[wk,ae,↓reduceIte,reduceEqDiff,reduceEq,reduceAdd,reduceCtorEq,E0,E1,E3,E6,E7,n1,vG,mG,gr,ph,aB l2,hs,is0,not0,hm,st1,w1];exact ih (k+1) _ _ _ (by omega) ⟨by omega,by simp only[en,↓reduceIte,reduceEqDiff,E0],by simp only[en,↓reduceIte,reduceEqDiff,E1],by simp only[en,↓reduceIte,reduceEqDiff,E3],by simp only[en,↓reduceIte,reduceEqDiff,E6],by simp only[en,↓reduceIte,reduceEqDiff],rfl,by simp;omega,⟨r.a,r.m+1⟩,pre,e1,jst _ _ jG,st1 _,by simp only;omega,by simp only;omega,by simp only;omega⟩
   | false=>
     rw[hp]at hs e1;rw[if_neg Bool.false_ne_true]at e1;by_cases hm:r.m=0
     . rw[if_pos hm,hf2]at e1;have ra:=r0 hm;simp(disch:=omega)only[wk,ae,↓reduceIte,reduceEqDiff,reduceEq,reduceAdd,reduceCtorEq,E0,E1,E3,E6,E7,n1,vG,mG,gr,ph,aB l2,hs,is0,not0,hm,st1];exact ih (k+1) _ _ _ (by omega) ⟨by omega,by simp only[en,↓reduceIte,reduceEqDiff,E0],by simp only[en,↓reduceIte,reduceEqDiff,E1],by simp only[en,↓reduceIte,reduceEqDiff,E3],by simp only[en,↓reduceIte,reduceEqDiff,E6],by simp only[en,↓reduceIte,reduceEqDiff],rfl,gl,⟨0,0⟩,pre,e1,jG,by rw[gr,ra,hm],by simp,by simp,by simp only;omega⟩
     . rw[if_neg hm,hf2]at e1;obtain⟨b,G',y1,y2,y3,y4⟩:=hY pre r _ G e1 jG (by omega);have y1:(cbL aW).yl yid [.agg [.int .i64 r.a,.int .i64 r.m]] G=some (.ret (.bool b),G'):=y1;have gr':G'[H.length]? =some (.cells [.int .i64 r.a,.int .i64 r.m]):=(y3 _ hN (by omega)).trans gr
       have st2:∀o:aj,(G'.set H.length o)[H.length]? =some o:=fun o=>List.getElem?_set_self (by omega)
       have z0:=fun xo yo=>Ae (xo:=xo) (yo:=yo) (r:=⟨0,0⟩) fun _=>rfl
       cases b with
       | false=>
         rw[if_neg Bool.false_ne_true]at y4;simp(disch:=omega)only[wk,ae,↓reduceIte,reduceEqDiff,reduceEq,reduceAdd,reduceCtorEq,E0,E1,E3,E6,E7,n1,vG,mG,gr,ph,aB l2,hs,is0,not0,hm,st1,y1,gr',st2,z0];exact .inr (hD _ _ y4 fun i hi=>List.getElem?_set_ne (by omega))
       | true=>
         rw[if_pos rfl]at y4;simp(disch:=omega)only[wk,ae,↓reduceIte,reduceEqDiff,reduceEq,reduceAdd,reduceCtorEq,E0,E1,E3,E6,E7,n1,vG,mG,gr,ph,aB l2,hs,is0,not0,hm,st1,y1,gr',st2];exact ih (k+1) _ _ _ (by omega) ⟨by omega,by simp only[en,↓reduceIte,reduceEqDiff,E0],by simp only[en,↓reduceIte,reduceEqDiff,E1],by simp only[en,↓reduceIte,reduceEqDiff,E3],by simp only[en,↓reduceIte,reduceEqDiff,E6],by simp only[en,↓reduceIte,reduceEqDiff],rfl,by simp;omega,⟨0,0⟩,pre++[r],by rw[e1];simp,hA _ _ _ y4 fun i hi=>List.getElem?_set_ne (by omega),st2 _,by simp,by simp,by simp only;omega⟩
 . have:many-k=0:=by omega
   rw[this,cR]at e1
   have n1:¬(k:Int)<(many:Int):=by omega
   by_cases hm:r.m=0
   . rw[if_pos hm,List.append_nil]at e1;simp(disch:=omega)only[wk,ae,↓reduceIte,reduceEqDiff,reduceEq,reduceAdd,reduceCtorEq,E0,E1,E3,E6,E7,n1,gr,is0,not0,hm];rw[e1];exact .inl jG
   . rw[if_neg hm]at e1;obtain⟨b,G',y1,y2,y3,y4⟩:=hY pre r [] G e1 jG (by omega);have y1:(cbL aW).yl yid [.agg [.int .i64 r.a,.int .i64 r.m]] G=some (.ret (.bool b),G'):=y1;simp(disch:=omega)only[wk,ae,↓reduceIte,reduceEqDiff,reduceEq,reduceAdd,reduceCtorEq,E0,E1,E3,E6,E7,n1,gr,is0,not0,hm,y1]
     cases b with
     |false=>rw[if_neg Bool.false_ne_true]at y4;exact .inr y4
     |true=>rw[if_pos rfl]at y4;rw[e1];exact .inl y4
theorem El {f:Frm} {rt:Tv} {ns bl rl:List Int} {bv rv:AV} (I:Img f rt ns bl rl bv rv) (ok:okI f bl rl=false) {vb id:Nat} {H:ab} (hv:H[vb]? =some (.cells (bW f (mkT rt ns) bv rv))):
   ∃L,(cbL aW).ic 37 [.yld id,.ptr vb 0] H=some (.ret (.tup []),H++L):=by
 have:=cA (tab:=aW) (f:=37) (fi:=c37) (args:=[.yld id,.ptr vb 0]) (H:=H) (P:=fun o G=>o= .ret (.tup [])/\∃L,G=H++L) rfl rfl (by simp[c37]) (by decide) ?_
 . obtain⟨o,G,e1,rfl,L,rfl⟩:=this;exact⟨L,e1⟩
 have so:=fun H=>uw I H
 rw[ok]at so;simp only[Bool.false_eq_true,if_false]at so;clear I;generalize mkT rt ns=T at*;have im:bW f T bv rv=[.int .i64 f.b,.int .i64 f.i,.int .i64 f.r,.int .i64 f.t,.int .u64 5,.int .u64 6,.int .i64 9,.int .i64 (9+f.i/4),.int .i64 (9+f.i/4+f.r/4),.int .i64 (dF f),.sl 7 T.length (ah tvC T) .ro,bv,rv]:=rfl
 have g0:∀L:List aj,(H++L)[H.length]? =L[0]? :=fun L=>by rw[List.getElem?_append_right (Nat.le_refl _),Nat.sub_self]
 have t0:∀(L:List aj) (o:aj),(H++L).set H.length o=H++L.set 0 o:=fun L o=>by rw[List.set_append_right _ _ (Nat.le_refl _),Nat.sub_self]
 unfold c37;rw[im]at so hv;unfold z13 at so;simp(disch:=omega)only[wk,ae,↓reduceIte,reduceEqDiff,reduceEq,reduceAdd,reduceCtorEq,so,hv,g0,t0];exact⟨_,rfl⟩
def pH (f:Frm) (bl rl:List Int):List Rn:=if okI f bl rl then cr (dF f) (bl++[f.b])else []
theorem qQ {f:Frm} {rt:Tv} {ns bl rl:List Int} {bv rv:AV} (I:Img f rt ns bl rl bv rv) (hz:NzR bl bv) {vb id N:Nat} {H:ab} (J:List Rn->ab->Prop) (Dn:ab->Prop)
   (hN:N<=H.length) (hvH:H[vb]? =some (.cells (bW f (mkT rt ns) bv rv)))
   (hY:∀pre x post G,pH f bl rl=pre++x::post->J pre G->N<=G.length->∃b G',(cbL aW).yl id [.agg (rnA x)] G=some (.ret (.bool b),G')/\N<=G'.length/\if b=true then J (pre++[x]) G' else Dn G')
   (j0:∀L,J [] (H++L)):
   ∃G,(cbL aW).ic 37 [.yld id,.ptr vb 0] H=some (.ret (.tup []),G)/\(J (pH f bl rl) G∨Dn G):=by
 unfold pH at*
 cases ok:okI f bl rl with
 | true=>
   rw[ok,if_pos rfl]at hY;rw[if_pos rfl];exact BU I hz ok J Dn hN hvH hY j0
 | false=>
   rw[if_neg Bool.false_ne_true];obtain⟨L,hL⟩:=El I ok (id:=id) hvH;exact⟨_,hL,.inl (j0 L)⟩
def PA:aC:=(.seq (.seq (.region [ql 29 9,qn 30 .lss (.t 29) (qi 2)]) (.cond (.t 30) .skip (.exit 0))) (.seq (.block 1 (.seq (.region [qo 10 (.alloc [(.int .i64 0)]),qs 10 (qi 0)]) (.seq (.seq (.region [qm 33 8]) (.block 2 (.range (.t 33) [34] OM O2))) (.seq (.region [ql 56 9,qn 57 .eql (.t 56) (qi 0),qm 58 57,qg 59 (.load 1 false (.t 10)) 58 true,qg 60 (.load 1 false (.t 7)) 58 true,qg 61 (.len 0 (.t 60)) 58 true,qg 62 (.load 1 false (.t 3)) 58 true,qg 63 (.mm true (qi 1) (.t 62)) 58 true,qg 64 (.mm false (.t 61) (.t 63)) 58 true,qg 65 (.bin .neq .num (.t 59) (.t 64)) 58 true,qk 66 58 (.t 65) qz,qm 67 66,qg 68 (.load 1 false (.t 9)) 67 false,qg 69 (.bin .eql .num (.t 68) (qi 1)) 67 false,qg 70 (.mv (.t 69)) 67 false,qg 71 (.load 1 false (.t 10)) 70 true,qg 72 (.load 1 false (.t 7)) 70 true,qg 73 (.len 0 (.t 72)) 70 true,qg 74 (.bin .neq .num (.t 71) (.t 73)) 70 true,qg 75 (.pick (.t 70) (.t 74) qz) 67 false,qk 76 67 qt (.t 75)]) (.cond (.t 76) (.seq (.region [qs 4 qz]) .ret) .skip))))) (.seq (.seq (.region [ql 77 9]) (.region [qo 9 (.alloc [(.int .i64 0)]),qs 9 (.t 77)])) (.region [ql 31 9,qn 32 .add (.t 31) (qi 1),qs 9 (.t 32)]))))
theorem Mh {xo yo:X} {a:FuncId} {b:List AV}:bD .eql .func xo yo (.fn a b) .cM=some (.bool false):=rfl
theorem AL (a:AV) (cs:List AV) (h:a= .agg cs) (H:ab) (ho:au cs=true) (hl:cs.length=13):(cbL aW).ic 12 [a] H=some (.ret (.fn 37 [.ptr H.length 0]),H++[.cells cs]):=by
 subst h;have:=cA (tab:=aW) (f:=12) (fi:=c12) (args:=[.agg cs]) (H:=H) (P:=fun o G=>o= .ret (.fn 37 [.ptr H.length 0])/\G=H++[.cells cs]) rfl rfl (by simp[c12]) (by decide) ?_
 . obtain⟨o,G,e1,rfl,rfl⟩:=this;exact e1
 unfold c12;simp(disch:=omega)only[wk,ae,↓reduceIte,reduceEqDiff,reduceEq,reduceAdd,reduceCtorEq,ho]
theorem Ld (a:AV) (H:ab):pcx (cbL aW) 12 [a] H=none:=aY rfl (bq (fi:=c12) rfl rfl)
def iO:aC:=(.region [qo 4 (.alloc [(.int .i64 0),(.int .i64 0)]),qe (.store 2 (.t 4) (.t 7))])
def iH:aC:=(.block 1 (.seq (.seq (.region [qf 8 0 4,ql 9 8,ql 10 3,qn 11 .gtr (.t 9) (.t 10),qm 12 11,qg 13 (.load 1 false (.t 2)) 12 true,qg 14 (.load 1 false (.t 3)) 12 true,qg 15 (.fld 0 (.t 4)) 12 true,qg 16 (.load 1 false (.t 15)) 12 true,qg 17 (.load 1 false (.t 3)) 12 true,qg 18 (.bin .sub .num (.t 16) (.t 17)) 12 true,qg 19 (.build [(.int .i64 0),(.int .i64 0)] [(0,(1,(.t 14))),(1,(1,(.t 18)))]) 12 true,qg 20 (.ct (.t 13) [(.t 19)]) 12 true,qg 21 (.un .not (.t 20)) 12 true,qk 22 12 (.t 21) qz]) (.cond (.t 22) .ret .skip)) (.region [qf 23 0 4,ql 24 23,qf 25 1 4,ql 26 25,qn 27 .add (.t 24) (.t 26),qs 3 (.t 27)])))
theorem gx (p:Nat->Bool) (N:Int):∀(f k:Nat) (r:Rn),((k+f:Nat):Int)<=N->(r.m=0∨0<=r.a/\0<r.m/\r.a+r.m<=k)->∀x∈cR p r k f,0<=x.a/\0<x.m/\x.a+x.m<=N
 | 0,k,r,hN,hr,x,hx=>by
   rw[cR]at hx;split at hx
   . cases hx
   . rename_i h
     rcases hr with hr|hr
     . exact absurd hr h
     . rw[List.mem_singleton.1 hx];omega
 | f+1,k,r,hN,hr,x,hx=>by
   rw[cR]at hx;split at hx
   . split at hx
     . exact gx p N f (k+1) _ (by omega) (.inr (by simp only;omega)) x hx
     . rename_i h;exact gx p N f (k+1) _ (by omega) (.inr (by simp only;omega)) x hx
   . split at hx
     . exact gx p N f (k+1) _ (by omega) (.inl rfl) x hx
     . rename_i h
       rcases List.mem_cons.1 hx with e|hx
       . subst e
         rcases hr with hr|hr
         . exact absurd hr h
         . omega
       . exact gx p N f (k+1) _ (by omega) (.inl rfl) x hx
theorem FA (mo:Nat) (H:ab):(cbL aW).ic 49 [.ptr mo 0] H=some (.ret (.fn 80 [.ptr H.length 0]),H++[.cells [.ptr mo 0]]):=by
 have:=cA (tab:=aW) (f:=49) (fi:=c49) (args:=[.ptr mo 0]) (H:=H) (P:=fun o G=>o= .ret (.fn 80 [.ptr H.length 0])/\G=H++[.cells [.ptr mo 0]]) rfl rfl (by simp[c49]) (by decide) ?_
 . obtain⟨o,G,e1,rfl,rfl⟩:=this;exact e1
 unfold c49;simp(disch:=omega)only[wk,ae,↓reduceIte,reduceEqDiff,reduceEq,reduceAdd,reduceCtorEq]
structure GaS (b yid mo:Nat) (e:Int) (lo:aj) (G:ab):Prop where
 y:G[b]? =some (.cells [.yld yid])
 e:G[b+1]? =some (.cells [.int .i64 e])
 m:G[b+2]? =some (.cells [.ptr mo 0])
 d:G[b+3]? =some .cO
 l:G[b+4]? =some lo
theorem GaS.of {b yid mo:Nat} {e:Int} {lo:aj} {G G':ab} (h:GaS b yid mo e lo G) (hi:∀i,i<b+5->G'[i]? =G[i]?):GaS b yid mo e lo G':=
 ⟨(hi _ (by omega)).trans h.y,(hi _ (by omega)).trans h.e,(hi _ (by omega)).trans h.m,(hi _ (by omega)).trans h.d,(hi _ (by omega)).trans h.l⟩
theorem FD {many mo yid N b:Nat} {S T:List Rn} {J:List Rn->ab->Prop} {Dn:ab->Prop} {tm:List AV} {E:Env} (hN:N<=b) (hm:many<=4096)
   (hA:∀pre G G',J pre G->(∀i,i<N->G'[i]? =G[i]?)->J pre G') (hD:∀G G',Dn G->(∀i,i<N->G'[i]? =G[i]?)->Dn G')
   (bd:∀x∈S,0<=x.a/\0<x.m/\x.a+x.m<=many) (hY:vJ yid N T J Dn) (ha:Ag 44 tm E) (E2:E 2= .ptr b 0) (E3:E 3= .ptr (b+1) 0):
   vJ (b+4) (b+5) S (fun pre G=>∃gp e,(∀post,S=pre++post->T=gp++dC many e post)/\J gp G/\0<=e/\e<=many/\GaS b yid mo e (.loop 0 .normal tm [7] iO iH) G) (fun G=>Dn G/\G[b+3]? =some .cO/\G[b+4]? =some (.loop 2 .ret tm [7] iO iH)):=by
 intro pre x post G hS ⟨gp,e,hT,jG,e0,e1,g⟩ hG;obtain⟨x1,x2,x3⟩:=bd x (by rw[hS];simp);have hT:=hT _ hS;rw[dC]at hT
 obtain⟨P,hP⟩:∃P:Bool->ab->Prop,P=fun c G'=>G.length<=G'.length/\(∀i,b+5<=i->i<G.length->G'[i]? =G[i]?)/\if c=true then(∃gp' e',(∀post',S=(pre++[x])++post'->T=gp'++dC many e' post')/\J gp' G'/\0<=e'/\e'<=many/\GaS b yid mo e' (.loop 0 .normal tm [7] iO iH) G')else(Dn G'/\G'[b+3]? =some .cO/\G'[b+4]? =some (.loop 2 .ret tm [7] iO iH)):=⟨_,rfl⟩
 have key:=tX (tab:=aW) (id:=b+4) (P:=P) (args:=[.agg (rnA x)]) (H:=G) (aO g.l) ha rfl (by decide) (by decide) (by decide) (by decide) (by decide) ?_
 . rw[hP]at key;exact key
 have ex:rnA x=[.int .i64 x.a,.int .i64 x.m]:=rfl
 have g0:∀L:List aj,(G++L)[G.length]? =L[0]? :=fun L=>by rw[List.getElem?_append_right (Nat.le_refl _),Nat.sub_self]
 have t0:∀(L:List aj) (o:aj),(G++L).set G.length o=G++L.set 0 o:=fun L o=>by rw[List.set_append_right _ _ (Nat.le_refl _),Nat.sub_self]
 have gk:∀i,i<G.length->∀L:List aj,(G++L)[i]? =G[i]? :=fun i hi L=>List.getElem?_append_left hi
 have gl:b+4<G.length:=(List.getElem?_eq_some_iff.1 g.l).1;unfold iO;rw[ex];simp(disch:=omega)only[wk,ae,↓reduceIte,reduceEqDiff,reduceEq,reduceAdd,reduceCtorEq,fN,gL,g0,t0];refine⟨rfl,rfl,_,_,_,_,_,aO (by rw[gk _ gl];exact g.l), ?_⟩;obtain⟨G1,hG1⟩:∃G1,G1=(G++[aj.cells [.int .i64 x.a,.int .i64 x.m]]).set (b+4) (.loop 1 .normal tm [7] iO iH):=⟨_,rfl⟩;rw[<-hG1]
 have l1:G1.length=G.length+1:=by rw[hG1];simp
 have k1:∀i,i<G.length->i≠b+4->G1[i]? =G[i]? :=fun i h1 h2=>by rw[hG1,List.getElem?_set_ne (Ne.symm h2),gk _ h1]
 have c1:G1[G.length]? =some (.cells [.int .i64 x.a,.int .i64 x.m]):=by rw[hG1,List.getElem?_set_ne (by omega),g0];rfl
 have lo1:G1[b+4]? =some (.loop 1 .normal tm [7] iO iH):=by rw[hG1,List.getElem?_set_self (by simp;omega)]
 have y1:=(k1 _ (by omega) (by omega)).trans g.y;have e2:=(k1 _ (by omega) (by omega)).trans g.e;have m1:=(k1 _ (by omega) (by omega)).trans g.m;have d1:=(k1 _ (by omega) (by omega)).trans g.d
 have j1:J gp G1:=hA _ _ _ jG fun i hi=>k1 i (by omega) (by omega)
 have w1:IntKind.i64.wrap (x.a+x.m)=x.a+x.m:=wrap_i64 (by omega) (by omega)
 have fin:∀(gp':List Rn) (G2:ab),G1.length<=G2.length->(∀i,N<=i->i<G1.length->G2[i]? =G1[i]?)->J gp' G2->T=gp'++dC many (x.a+x.m) post->P true ((G2.set (b+1) (.cells [.int .i64 (x.a+x.m)])).set (b+4) (.loop 0 .normal tm [7] iO iH)):=fun gp' G2 h1 h2 h3 h4=>by
   have kk:∀i,i≠b+1->i≠b+4->((G2.set (b+1) (.cells [.int .i64 (x.a+x.m)])).set (b+4) (aj.loop 0 .normal tm [7] iO iH))[i]? =G2[i]? :=fun i h5 h6=>by rw[List.getElem?_set_ne (Ne.symm h6),List.getElem?_set_ne (Ne.symm h5)]
   rw[hP];refine⟨by simp;omega,fun i h5 h6=> ?_, ?_⟩
   . rw[kk i (by omega) (by omega),h2 i (by omega) (by omega),k1 i h6 (by omega)]
   rw[if_pos rfl];refine⟨gp',x.a+x.m,fun post' hp=> ?_,hA _ _ _ h3 fun i hi=>kk i (by omega) (by omega),by omega,x3, ?_⟩
   . have:post'=post:=by
       rw[hS,List.append_assoc]at hp;have:=List.append_cancel_left hp;simpa using this.symm
     rw[this];exact h4
   . exact⟨(kk _ (by omega) (by omega)).trans ((h2 _ (by omega) (by omega)).trans y1),by rw[List.getElem?_set_ne (by omega),List.getElem?_set_self (by omega)],(kk _ (by omega) (by omega)).trans ((h2 _ (by omega) (by omega)).trans m1),(kk _ (by omega) (by omega)).trans ((h2 _ (by omega) (by omega)).trans d1),List.getElem?_set_self (by simp;omega)⟩
 unfold iH;by_cases hx:e<x.a
 . rw[if_pos hx]at hT;have w2:IntKind.i64.wrap (x.a-e)=x.a-e:=wrap_i64 (by omega) (by omega);obtain⟨c,G2,z1,z2,z3,z4⟩:=hY gp ⟨e,x.a-e⟩ _ G1 hT j1 (by omega);have z1:(cbL aW).yl yid [.agg [.int .i64 e,.int .i64 (x.a-e)]] G1=some (.ret (.bool c),G2):=z1;have c2:=(z3 G.length (by omega) (by omega)).trans c1;have lo2:=(z3 (b+4) (by omega) (by omega)).trans lo1;have e22:=(z3 (b+1) (by omega) (by omega)).trans e2
   cases c with
   | false=>
     rw[if_neg Bool.false_ne_true]at z4;simp(disch:=omega)only[wk,ae,↓reduceIte,reduceEqDiff,reduceEq,reduceAdd,reduceCtorEq,E2,E3,y1,e2,m1,c1,hx,w1,w2,z1,aI,cw];refine⟨rfl,1,.normal,tm,[7],iO,iH,aO lo2, ?_⟩;rw[hP];refine⟨by simp;omega,fun i h5 h6=> ?_, ?_⟩
     . rw[List.getElem?_set_ne (by omega),z3 i (by omega) (by omega),k1 i h6 (by omega)]
     rw[if_neg Bool.false_ne_true];exact⟨hD _ _ z4 fun i hi=>List.getElem?_set_ne (by omega),by rw[List.getElem?_set_ne (by omega)];exact(z3 _ (by omega) (by omega)).trans d1,List.getElem?_set_self (by omega)⟩
   | true=>
     rw[if_pos rfl]at z4;simp(disch:=omega)only[wk,ae,↓reduceIte,reduceEqDiff,reduceEq,reduceAdd,reduceCtorEq,E2,E3,y1,e2,m1,c1,hx,w1,w2,z1,c2,e22,aI,cw];refine⟨rfl,1,.normal,tm,[7],iO,iH,aO (by rw[List.getElem?_set_ne (by omega)];exact lo2), ?_⟩;exact fin (gp++[⟨e,x.a-e⟩]) G2 z2 z3 z4 (by rw[hT];simp)
 . rw[if_neg hx]at hT;simp(disch:=omega)only[wk,ae,↓reduceIte,reduceEqDiff,reduceEq,reduceAdd,reduceCtorEq,E2,E3,y1,e2,m1,c1,hx,w1,aI,cw];refine⟨rfl,1,.normal,tm,[7],iO,iH,aO (by rw[List.getElem?_set_ne (by omega)];exact lo1), ?_⟩;exact fin gp G1 (Nat.le_refl _) (fun _ _ _=>rfl) j1 hT
theorem Ha {n:Nat} {many:Nat} {p:Nat->Bool} {mo id vb yid N:Nat} {H:ab} (J:List Rn->ab->Prop) (Dn:ab->Prop)
   (hN:N<=H.length) (hv:∀pre G,J pre G->G[vb]? =some (.cells [.ptr mo 0])/\BM G mo id n many p)
   (hA:∀pre G G',J pre G->(∀i,i<N->G'[i]? =G[i]?)->J pre G') (hD:∀G G',Dn G->(∀i,i<N->G'[i]? =G[i]?)->Dn G')
   (hY:vJ yid N (dC many 0 (cR p ⟨0,0⟩ 0 many)) J Dn) (j0:J [] H):
   ∃G,(cbL aW).ic 112 [.yld yid,.ptr vb 0] H=some (.ret (.tup []),G)/\(J (dC many 0 (cR p ⟨0,0⟩ 0 many)) G∨Dn G):=by
 have:=cA (tab:=aW) (f:=112) (fi:=JC) (args:=[.yld yid,.ptr vb 0]) (H:=H) (P:=fun o G=>o= .ret (.tup [])/\(J (dC many 0 (cR p ⟨0,0⟩ 0 many)) G∨Dn G)) rfl rfl (by simp[JC]) (by decide) ?_
 . obtain⟨o,G,e1,rfl,e2⟩:=this;exact⟨G,e1,e2⟩
 obtain⟨v0,B0⟩:=hv _ _ j0;have hi:=B0.hi;have few:=B0.few;have bd:=gx p many many 0 ⟨0,0⟩ (by omega) (.inl rfl);obtain⟨S,hS⟩:∃S,S=cR p ⟨0,0⟩ 0 many:=⟨_,rfl⟩;rw[<-hS]at hY bd ⊢;obtain⟨T,hT⟩:∃T,T=dC many 0 S:=⟨_,rfl⟩;rw[<-hT]at hY ⊢
 have j1:J [] (H++[.cells [.yld yid],.cells [.int .i64 0]]):=hA _ _ _ j0 fun i hi=>List.getElem?_append_left (by omega)
 obtain⟨v1,B1⟩:=hv _ _ j1
 have pr:∀(v:Nat) (H:ab),pcx (cbL aW) 49 [.ptr v 0] H=none:=fun v H=>aY rfl (bq (fi:=c49) rfl rfl)
 have l1:(cbL aW).cj 49=false:=rfl
 have g1:∀L:List aj,(H++L)[H.length+1]? =L[1]? :=fun L=>by rw[List.getElem?_append_right (by omega),show H.length+1-H.length=1 by omega]
 have t1:∀(L:List aj) (o:aj),(H++L).set (H.length+1) o=H++L.set 1 o:=fun L o=>by rw[List.set_append_right _ _ (by omega),show H.length+1-H.length=1 by omega]
 have fy:(AV.yld yid).flat=[.yld yid]:=rfl;have oy:au [AV.yld yid]=true:=rfl;unfold JC;simp(disch:=omega)only[wk,ae,↓reduceIte,reduceEqDiff,reduceEq,reduceAdd,reduceCtorEq,fy,oy,v1,pr,aB l1,FA,g1,t1,List.append_assoc];obtain⟨H1,hH1⟩:∃H1,H1=H++[aj.cells [.yld yid],.cells [.int .i64 0],.cells [.ptr mo 0]]:=⟨_,rfl⟩;rw[<-hH1]
 have l3:H1.length=H.length+3:=by rw[hH1];simp
 refine gJ («as» :=iO) (bd:=iH) (f:=80) (caps:=[.ptr (H.length+2) 0]) (by simp only[en,↓reduceIte,reduceEqDiff,oz]) (fun tm ha=> ?_);rw[l3];obtain⟨H0,hH0⟩:∃H0,H0=H1++[aj.cO,.loop 0 .normal tm [7] iO iH]:=⟨_,rfl⟩;rw[<-hH0]
 have l0:H0.length=H.length+5:=by rw[hH0];simp[l3]
 have ap:∀i,i<H.length->H0[i]? =H[i]? :=fun i hi=>by rw[hH0,hH1,List.append_assoc,List.getElem?_append_left hi]
 have aq:∀i,H0[H.length+i]? =[aj.cells [.yld yid],.cells [.int .i64 0],.cells [.ptr mo 0],.cO,.loop 0 .normal tm [7] iO iH][i]? :=fun i=>by rw[hH0,hH1,List.append_assoc,List.getElem?_append_right (by omega),Nat.add_sub_cancel_left];rfl
 have gs:GaS H.length yid mo 0 (.loop 0 .normal tm [7] iO iH) H0:=⟨aq 0,aq 1,aq 2,aq 3,aq 4⟩;have rd:=FD (b:=H.length) (mo:=mo) (S:=S) (T:=T) hN (by omega) hA hD bd hY ha (by simp only[en,↓reduceIte,reduceEqDiff]) (by simp only[en,↓reduceIte,reduceEqDiff]);rw[hS]at rd
 obtain⟨H2,hic,hJD⟩:=Da (n:=n) (p:=p) (mo:=mo) (id:=id) (vb:=H.length+2) (H:=H0) _ _ (by omega) (fun pre G ⟨gp,e,_,h1,_,_,h2⟩=>⟨h2.m,(hv _ _ h1).2⟩)
   (fun pre G G' ⟨gp,e,h0,h1,h2,h3,h4⟩ hi=>⟨gp,e,h0,hA _ _ _ h1 fun i h=>hi i (by omega),h2,h3,h4.of hi⟩)
   (fun G G' ⟨h1,h2,h3⟩ hi=>⟨hD _ _ h1 fun i h=>hi i (by omega),(hi _ (by omega)).trans h2,(hi _ (by omega)).trans h3⟩) rd
   ⟨[],0,fun post hp=>by rw[<-hS]at hp;rw[hT,hp];rfl,hA _ _ _ j0 fun i hi=>ap i (by omega),by omega,by omega,gs⟩
 rcases hJD with⟨gp,e,h0,h1,h2,h3,h4⟩|⟨h1,h2,h3⟩
 . refine⟨_,H2,0,.normal,tm,[7],iO,iH,hic,aO h4.l,by decide,rfl, ?_⟩;have h0:=h0 [] (by simp);rw[dC]at h0;obtain⟨H3,hH3⟩:∃H3,H3=H2.set (H.length+4) (.loop 3 .normal tm [7] iO iH):=⟨_,rfl⟩;rw[<-hH3]
   have s0:∀i,i≠H.length+4->H3[i]? =H2[i]? :=fun i h=>by rw[hH3,List.getElem?_set_ne (Ne.symm h)]
   have j3:J gp H3:=hA _ _ _ h1 fun i hi=>s0 i (by omega)
   obtain⟨v3,B3⟩:=hv _ _ j3;have m3:=B3.m;have y3:=(s0 _ (by omega)).trans h4.y;have e3:=(s0 _ (by omega)).trans h4.e;have d3:=(s0 _ (by omega)).trans h4.d;have ll:=(List.getElem?_eq_some_iff.1 h4.l).1
   have l33:H3.length=H2.length:=by rw[hH3];simp
   by_cases hx:e<many
   . rw[if_pos hx]at h0;have w2:IntKind.i64.wrap ((many:Int)-e)=many-e:=wrap_i64 (by omega) (by omega);obtain⟨c,G2,z1,z2,z3,z4⟩:=hY gp ⟨e,many-e⟩ [] H3 h0 j3 (by omega);have z1:(cbL aW).yl yid [.agg [.int .i64 e,.int .i64 ((many:Int)-e)]] H3=some (.ret (.bool c),G2):=z1;have d4:=(z3 _ (by omega) (by omega)).trans d3;simp(disch:=omega)only[wk,ae,↓reduceIte,reduceEqDiff,reduceEq,reduceAdd,reduceCtorEq,v3,m3,y3,e3,hx,w2,z1];rw[od d4];simp(disch:=omega)only[wk,ae,↓reduceIte,reduceEqDiff,reduceEq,reduceAdd,reduceCtorEq]
     cases c with
     |false=>rw[if_neg Bool.false_ne_true]at z4;exact .inr (hD _ _ z4 fun i hi=>List.getElem?_set_ne (by omega))
     |true=>rw[if_pos rfl]at z4;rw[h0];exact .inl (hA _ _ _ z4 fun i hi=>List.getElem?_set_ne (by omega))
   . rw[if_neg hx,List.append_nil]at h0;simp(disch:=omega)only[wk,ae,↓reduceIte,reduceEqDiff,reduceEq,reduceAdd,reduceCtorEq,v3,m3,y3,e3,hx];rw[od d3];simp(disch:=omega)only[wk,ae,↓reduceIte,reduceEqDiff,reduceEq,reduceAdd,reduceCtorEq];rw[h0];exact .inl (hA _ _ _ j3 fun i hi=>List.getElem?_set_ne (by omega))
 . refine⟨_,H2,2,.ret,tm,[7],iO,iH,hic,aO h3,by decide,rfl, ?_⟩
   have h4:(H2.set (H.length+4) (aj.loop 3 .ret tm [7] iO iH))[H.length+3]? =some .cO:=by rw[List.getElem?_set_ne (by omega)];exact h2
   simp(disch:=omega)only[wk,ae,↓reduceIte,reduceEqDiff,reduceEq,reduceAdd,reduceCtorEq];rw[eL h4];simp(disch:=omega)only[wk,ae,↓reduceIte,reduceEqDiff,reduceEq,reduceAdd,reduceCtorEq];exact .inr (hD _ _ h1 fun i hi=>by rw[List.getElem?_set_ne (by omega),List.getElem?_set_ne (by omega)])
def lY:aC:=(.region [qo 10 (.alloc [(.int .i64 0),(.int .i64 0)]),qe (.store 2 (.t 10) (.t 31))])
def lX:aC:=(.block 2 (.seq (.seq (.region [qf 32 0 10,ql 33 32,ql 34 5,qo 35 (.mm true (.t 33) (.t 34)),qm 11 35]) (.seq (.region [ql 36 4,qf 37 0 10,ql 38 37,qf 39 1 10,ql 40 39,qn 41 .add (.t 38) (.t 40),qm 42 11,qn 43 .sub (.t 41) (.t 42),qn 44 .leq (.t 36) (.t 43)]) (.cond (.t 44) (.seq (.region [qm 45 11,qs 6 (.t 45),qs 7 (qi 0)]) .ret) .skip))) (.seq (.region [ql 46 9,qo 47 (.un .not (.t 46)),qm 48 47,qg 49 (.load 1 false (.t 4)) 48 true,qg 50 (.fld 1 (.t 10)) 48 true,qg 51 (.load 1 false (.t 50)) 48 true,qg 52 (.bin .leq .num (.t 49) (.t 51)) 48 true,qk 53 48 (.t 52) qz]) (.cond (.t 53) (.region [qf 54 0 10,ql 55 54,qs 8 (.t 55),qs 9 qt]) .skip))))
def hM (T:List Rn) (mn:Int):Int×Int:=
 match T.find? (fun x=>decide (mn<=x.m))with
 |some x=>(x.a,0)
 |none=>(0,5)
theorem I8 {T:List Rn} {mn:Int} (h:∀x∈T,x.m<mn):hM T mn=(0,5):=by
 unfold hM;rw[List.find?_eq_none.2 fun x hx=>by have:=h x hx;simp;omega]
theorem Gy {T pre post:List Rn} {x:Rn} {mn:Int} (hT:T=pre++x::post) (h:∀x∈pre,x.m<mn) (hx:mn<=x.m):hM T mn=(x.a,0):=by
 unfold hM;rw[hT,List.find?_append,List.find?_eq_none.2 fun x hx=>by have:=h x hx;simp;omega];simp[hx]
theorem mL (N:Int):∀(S:List Rn) (e:Int),0<=e->e<=N->(∀x∈S,0<=x.a/\0<x.m/\x.a+x.m<=N)->∀y∈dC N e S,0<=y.a/\0<y.m/\y.a+y.m<=N
 | [],e,h0,h1,_,y,hy=>by
   rw[dC]at hy;split at hy
   . rw[List.mem_singleton.1 hy];simp only;omega
   . cases hy
 | x::S,e,h0,h1,hS,y,hy=>by
   have hx:=hS x (List.mem_cons_self ..)
   have ih:=mL N S (x.a+x.m) (by omega) (by omega) fun z hz=>hS z (List.mem_cons_of_mem _ hz)
   rw[dC]at hy;split at hy
   . rcases List.mem_cons.1 hy with e|hy
     . rw[e];simp only;omega
     . exact ih y hy
   . exact ih y hy
theorem GA (mo:Nat) (H:ab):(cbL aW).ic 77 [.ptr mo 0] H=some (.ret (.fn 112 [.ptr H.length 0]),H++[.cells [.ptr mo 0]]):=by
 have:=cA (tab:=aW) (f:=77) (fi:=c77) (args:=[.ptr mo 0]) (H:=H) (P:=fun o G=>o= .ret (.fn 112 [.ptr H.length 0])/\G=H++[.cells [.ptr mo 0]]) rfl rfl (by simp[c77]) (by decide) ?_
 . obtain⟨o,G,e1,rfl,rfl⟩:=this;exact e1
 unfold c77;simp(disch:=omega)only[wk,ae,↓reduceIte,reduceEqDiff,reduceEq,reduceAdd,reduceCtorEq]
theorem Gt {N b:Nat} {T:List Rn} {H0 H:ab} {mn many:Int} {tm:List AV} {E:Env} (h1:1<=mn) (h2:mn<=4096) (hm:many<=4096) (hb:b=H.length)
   (bd:∀x∈T,0<=x.a/\0<x.m/\x.a+x.m<=many) (ha:Ag 59 tm E) (E4:E 4= .ptr b 0) (E5:E 5= .ptr (b+1) 0) (E6:E 6= .ptr (b+2) 0) (E7:E 7= .ptr (b+3) 0) (E9:E 9= .ptr (b+5) 0)
   (g0:H0[b]? =some (.cells [.int .i64 mn])) (g1:H0[b+1]? =some (.cells [.int .i64 0])) (g2:H0[b+2]? =some (.cells [.int .i64 0])) (g3:H0[b+3]? =some (.cells [.int .i64 0])) (g5:H0[b+5]? =some (.cells [.bool false])) (g7:H0[b+7]? =some .cO)
   (g8:H0[b+8]? =some (.loop 0 .normal tm [31] lY lX)) (ho:∀i,i<b->H0[i]? =H[i]?):
   vJ (b+8) (b+9) T (fun pre G=>(∀x∈pre,x.m<mn)/\∀i,i<b+9->G[i]? =H0[i]?) (fun G=>∃x pre post,T=pre++x::post/\(∀y∈pre,y.m<mn)/\mn<=x.m/\(∀i,i<b->G[i]? =H[i]?)/\G[b+2]? =some (.cells [.int .i64 x.a])/\G[b+3]? =some (.cells [.int .i64 0])/\G[b+7]? =some .cO/\G[b+8]? =some (.loop 2 .ret tm [31] lY lX)):=by
 intro pre x post G hS ⟨hp,hG⟩ hl;obtain⟨x1,x2,x3⟩:=bd x (by rw[hS];simp)
 obtain⟨P,hP⟩:∃P:Bool->ab->Prop,P=fun c G'=>G.length<=G'.length/\(∀i,b+9<=i->i<G.length->G'[i]? =G[i]?)/\if c=true then((∀y∈pre++[x],y.m<mn)/\∀i,i<b+9->G'[i]? =H0[i]?)else∃x pre post,T=pre++x::post/\(∀y∈pre,y.m<mn)/\mn<=x.m/\(∀i,i<b->G'[i]? =H[i]?)/\G'[b+2]? =some (.cells [.int .i64 x.a])/\G'[b+3]? =some (.cells [.int .i64 0])/\G'[b+7]? =some .cO/\G'[b+8]? =some (.loop 2 .ret tm [31] lY lX):=⟨_,rfl⟩
 have key:=tX (tab:=aW) (id:=b+8) (P:=P) (args:=[.agg (rnA x)]) (H:=G) (aO ((hG _ (by omega)).trans g8)) ha rfl (by decide) (by decide) (by decide) (by decide) (by decide) ?_
 . rw[hP]at key;exact key
 have ex:rnA x=[.int .i64 x.a,.int .i64 x.m]:=rfl
 have gg:∀L:List aj,(G++L)[G.length]? =L[0]? :=fun L=>by rw[List.getElem?_append_right (Nat.le_refl _),Nat.sub_self]
 have t0:∀(L:List aj) (o:aj),(G++L).set G.length o=G++L.set 0 o:=fun L o=>by rw[List.set_append_right _ _ (Nat.le_refl _),Nat.sub_self]
 have gk:∀i,i<G.length->∀L:List aj,(G++L)[i]? =G[i]? :=fun i hi L=>List.getElem?_append_left hi
 unfold lY;rw[ex];simp(disch:=omega)only[wk,ae,↓reduceIte,reduceEqDiff,reduceEq,reduceAdd,reduceCtorEq,fN,gL,gg,t0];refine⟨rfl,rfl,_,_,_,_,_,aO (by rw[gk _ (by omega)];exact(hG _ (by omega)).trans g8), ?_⟩;obtain⟨G1,hG1⟩:∃G1,G1=(G++[aj.cells [.int .i64 x.a,.int .i64 x.m]]).set (b+8) (.loop 1 .normal tm [31] lY lX):=⟨_,rfl⟩;rw[<-hG1]
 have l1:G1.length=G.length+1:=by rw[hG1];simp
 have k1:∀i,i<G.length->i≠b+8->G1[i]? =G[i]? :=fun i h1 h2=>by rw[hG1,List.getElem?_set_ne (Ne.symm h2),gk _ h1]
 have kk:∀i o,i<b+9->i≠b+8->H0[i]? =o->G1[i]? =o:=fun i o h1 h2 h3=>(k1 i (by omega) h2).trans ((hG i h1).trans h3)
 have c1:G1[G.length]? =some (.cells [.int .i64 x.a,.int .i64 x.m]):=by rw[hG1,List.getElem?_set_ne (by omega),gg];rfl
 have lo1:G1[b+8]? =some (.loop 1 .normal tm [31] lY lX):=by rw[hG1,List.getElem?_set_self (by simp;omega)]
 have m0:=kk _ _ (by omega) (by omega) g0;have m1:=kk _ _ (by omega) (by omega) g1;have m2:=kk _ _ (by omega) (by omega) g2;have m3:=kk _ _ (by omega) (by omega) g3;have m5:=kk _ _ (by omega) (by omega) g5;have m7:=kk _ _ (by omega) (by omega) g7
 have ge:∀i,i<b+8->G1[i]? =H0[i]? :=fun i hi=>kk i _ (by omega) (by omega) rfl
 have w1:IntKind.i64.wrap (x.a+x.m)=x.a+x.m:=wrap_i64 (by omega) (by omega)
 have w2:IntKind.i64.wrap (x.a+x.m-x.a)=x.m:=by rw[wrap_i64 (by omega) (by omega)];omega
 have n0:¬x.a<0:=by omega
 have s2:∀o:aj,(G1.set (b+2) o)[b+3]? =some (.cells [.int .i64 0]):=fun o=>by rw[List.getElem?_set_ne (by omega)];exact m3
 unfold lX;by_cases hx:mn<=x.m
 . simp(disch:=omega)only[wk,ae,↓reduceIte,reduceEqDiff,reduceEq,reduceAdd,reduceCtorEq,E4,E5,E6,E7,E9,m0,m1,m2,m3,m5,c1,w1,w2,n0,hx,s2];refine⟨rfl,1,.normal,tm,[31],lY,lX,aO (by rw[List.getElem?_set_ne (by omega),List.getElem?_set_ne (by omega)];exact lo1), ?_⟩;rw[hP];refine⟨by simp;omega,fun i h5 h6=> ?_, ?_⟩
   . rw[List.getElem?_set_ne (by omega),List.getElem?_set_ne (by omega),List.getElem?_set_ne (by omega),k1 i h6 (by omega)]
   rw[if_neg Bool.false_ne_true];refine⟨x,pre,post,hS,hp,hx,fun i hi=> ?_, ?_, ?_, ?_,List.getElem?_set_self (by simp;omega)⟩
   . rw[List.getElem?_set_ne (by omega),List.getElem?_set_ne (by omega),List.getElem?_set_ne (by omega),ge i (by omega)];exact ho i hi
   . rw[List.getElem?_set_ne (by omega),List.getElem?_set_ne (by omega),List.getElem?_set_self (by omega)]
   . rw[List.getElem?_set_ne (by omega),List.getElem?_set_self (by simp;omega)]
   . rw[List.getElem?_set_ne (by omega),List.getElem?_set_ne (by omega),List.getElem?_set_ne (by omega)];exact m7
 . simp(disch:=omega)only[wk,ae,↓reduceIte,reduceEqDiff,reduceEq,reduceAdd,reduceCtorEq,E4,E5,E6,E7,E9,m0,m1,m2,m3,m5,c1,w1,w2,n0,hx,aI,cw];refine⟨rfl,1,.normal,tm,[31],lY,lX,aO lo1, ?_⟩;rw[hP];refine⟨by simp;omega,fun i h5 h6=> ?_, ?_⟩
   . rw[List.getElem?_set_ne (by omega),k1 i h6 (by omega)]
   rw[if_pos rfl];refine⟨fun y hy=> ?_,fun i hi=> ?_⟩
   . rcases List.mem_append.1 hy with h|h
     . exact hp y h
     . rw[List.mem_singleton.1 h];omega
   . by_cases e:i=b+8
     . subst e;rw[List.getElem?_set_self (by omega),g8]
     . rw[List.getElem?_set_ne (by omega)];exact ge i (by omega)
theorem GV {H:ab} {mo id n:Nat} {many:Nat} {p:Nat->Bool} (B:BM H mo id n many p) {mn:Int} (h1:1<=mn) (h2:mn<=4096):
   ∃G,(cbL aW).ic 42 [.ptr mo 0,.int .i64 mn,.int .i64 0] H=some (.ret (.tup [.int .i64 (hM (dC many 0 (cR p ⟨0,0⟩ 0 many)) mn).1,.int .i64 (hM (dC many 0 (cR p ⟨0,0⟩ 0 many)) mn).2]),G)/\∀i,i<H.length->G[i]? =H[i]? :=by
 obtain⟨T,hT⟩:∃T,T=dC many 0 (cR p ⟨0,0⟩ 0 many):=⟨_,rfl⟩;have hi:=B.hi;have few:=B.few;have lo:=B.lo
 have bd:∀x∈T,0<=x.a/\0<x.m/\x.a+x.m<=(many:Int):=by
   rw[hT];exact mL many _ 0 (by omega) (by omega) (gx p many many 0 ⟨0,0⟩ (by omega) (.inl rfl))
 have:=cA (tab:=aW) (f:=42) (fi:=c42) (args:=[.ptr mo 0,.int .i64 mn,.int .i64 0]) (H:=H) (P:=fun o G=>o= .ret (.tup [.int .i64 (hM T mn).1,.int .i64 (hM T mn).2])/\∀i,i<H.length->G[i]? =H[i]?) rfl rfl (by simp[c42]) (by decide) ?_
 . rw[<-hT];obtain⟨o,G,e1,rfl,e2⟩:=this;exact⟨G,e1,e2⟩
 have q1:∀(j:Nat) (L:List aj),(H++L)[H.length+j]? =L[j]? :=fun j L=>by rw[List.getElem?_append_right (by omega),Nat.add_sub_cancel_left]
 have q0:∀(L:List aj),(H++L)[H.length]? =L[0]? :=fun L=>q1 0 L
 have t1:∀(j:Nat) (L:List aj) (o:aj),(H++L).set (H.length+j) o=H++L.set j o:=fun j L o=>by rw[List.set_append_right _ _ (by omega),Nat.add_sub_cancel_left]
 have B1:∀L,BM (H++L) mo id n many p:=fun L=>B.app L
 have m1:∀L:List aj,(H++L)[mo]? =some (.cells [.msl 1 id 0 n,.int .i64 (many:Int)]):=fun L=>(B1 L).m
 have no:=fun L=>ze (lS (B1 L))
 have pn:∀(v:Nat) (H:ab),pcx (cbL aW) 75 [.ptr v 0] H=none:=fun v H=>aY rfl (bq (fi:=c75) rfl rfl)
 have pg:∀(v:Nat) (H:ab),pcx (cbL aW) 77 [.ptr v 0] H=none:=fun v H=>aY rfl (bq (fi:=c77) rfl rfl)
 have ll1:(cbL aW).cj 75=false:=rfl;have ll2:(cbL aW).cj 77=false:=rfl
 have n1:¬mn<1:=by omega
 have n2:¬(many:Int)<=0:=by omega
 unfold c42;simp(disch:=omega)only[wk,ae,↓reduceIte,reduceEqDiff,reduceEq,reduceAdd,reduceCtorEq,q0,q1,t1,m1,no,pn,aB ll1,n1,n2,pg,aB ll2,GA,List.append_assoc,Int.reduceToNat,Int.reduceAdd,Int.reduceSub,Int.reduceMul,Int.reduceNeg,Nat.reduceSub,Nat.reduceDiv];obtain⟨H1,hH1⟩:∃H1,H1=H++[aj.cells [.int .i64 mn],.cells [.int .i64 0],.cells [.int .i64 0],.cells [.int .i64 0],.cells [.int .i64 0],.cells [.bool false],.cells [.ptr mo 0]]:=⟨_,rfl⟩;rw[<-hH1]
 have l3:H1.length=H.length+7:=by rw[hH1];simp
 refine gJ («as» :=lY) (bd:=lX) (f:=112) (caps:=[.ptr (H.length+6) 0]) (by simp only[en,↓reduceIte,reduceEqDiff,oz]) (fun tm ha=> ?_);rw[l3];obtain⟨H0,hH0⟩:∃H0,H0=H1++[aj.cO,.loop 0 .normal tm [31] lY lX]:=⟨_,rfl⟩;rw[<-hH0]
 have l0:H0.length=H.length+9:=by rw[hH0];simp[l3]
 have ap:∀i,i<H.length->H0[i]? =H[i]? :=fun i hi=>by rw[hH0,hH1,List.append_assoc,List.getElem?_append_left hi]
 have aq:∀i,H0[H.length+i]? =[aj.cells [.int .i64 mn],.cells [.int .i64 0],.cells [.int .i64 0],.cells [.int .i64 0],.cells [.int .i64 0],.cells [.bool false],.cells [.ptr mo 0],.cO,.loop 0 .normal tm [31] lY lX][i]? :=fun i=>by rw[hH0,hH1,List.append_assoc,List.getElem?_append_right (by omega),Nat.add_sub_cancel_left];rfl
 have rd:=Gt (b:=H.length) (N:=H.length) (T:=T) (H0:=H0) (H:=H) (mn:=mn) (many:=many) h1 h2 (by omega) rfl bd ha (by simp only[en,↓reduceIte,reduceEqDiff]) (by simp only[en,↓reduceIte,reduceEqDiff]) (by simp only[en,↓reduceIte,reduceEqDiff]) (by simp only[en,↓reduceIte,reduceEqDiff]) (by simp only[en,↓reduceIte,reduceEqDiff]) (aq 0) (aq 1) (aq 2) (aq 3) (aq 5) (aq 7) (aq 8) ap;rw[hT]at rd
 have BH:BM H0 mo id n many p:=by rw[hH0,hH1,List.append_assoc];exact B.app _
 obtain⟨H2,hic,hJD⟩:=Ha (n:=n) (p:=p) (mo:=mo) (id:=id) (vb:=H.length+6) (H:=H0) _ _ (by omega) (fun pre G ⟨_,h⟩=>⟨(h _ (by omega)).trans (aq 6),B.of fun i hi=>(h i (by omega)).trans (ap i hi)⟩)
   (fun pre G G' ⟨h1,h2⟩ hi=>⟨h1,fun i h=>(hi i (by omega)).trans (h2 i h)⟩)
   (fun G G' ⟨x,pre,post,q1,q2,q3,q4,q5,q6,q7,q8⟩ hi=>⟨x,pre,post,q1,q2,q3,fun i h=>(hi i (by omega)).trans (q4 i h),(hi _ (by omega)).trans q5,(hi _ (by omega)).trans q6,(hi _ (by omega)).trans q7,(hi _ (by omega)).trans q8⟩) rd
   ⟨fun x hx=>by(cases hx),fun _ _=>rfl⟩
 rw[<-hT]at hJD
 rcases hJD with⟨h3,h4⟩|⟨x,pre,post,q1,q2,q3,q4,q5,q6,q7,q8⟩
 . refine⟨_,H2,0,.normal,tm,[31],lY,lX,hic,aO ((h4 _ (by omega)).trans (aq 8)),by decide,rfl, ?_⟩;have e:=I8 h3;rw[e];have hle:H.length+8<H2.length:=(List.getElem?_eq_some_iff.1 ((h4 _ (by omega)).trans (aq 8))).1;obtain⟨H3,hH3⟩:∃H3,H3=H2.set (H.length+8) (.loop 3 .normal tm [31] lY lX):=⟨_,rfl⟩;rw[<-hH3]
   have s0:∀i o,i<H.length+8->H0[i]? =o->H3[i]? =o:=fun i o h hq=>by rw[hH3,List.getElem?_set_ne (by omega),h4 i (by omega),hq]
   have g9:=s0 _ _ (by omega) (aq 5);have g2:=s0 _ _ (by omega) (aq 2);have g3:=s0 _ _ (by omega) (aq 3);have g7:=s0 _ _ (by omega) (aq 7)
   have hle3:H.length+8<H3.length:=by rw[hH3];simpa using hle
   simp only[List.getElem?_cons_succ,List.getElem?_cons_zero]at g9 g2 g3 g7
   have u2:∀o:aj,(H3.set (H.length+2) o)[H.length+3]? =some (.cells [.int .i64 0]):=fun o=>by rw[List.getElem?_set_ne (by omega)];exact g3
   have u7:∀o o':aj,((H3.set (H.length+2) o).set (H.length+3) o')[H.length+7]? =some .cO:=fun o o'=>by rw[List.getElem?_set_ne (by omega),List.getElem?_set_ne (by omega)];exact g7
   simp(disch:=omega)only[wk,ae,↓reduceIte,reduceEqDiff,reduceEq,reduceAdd,reduceCtorEq,g9,g2,g3,u2];rw[eL (u7 _ _)]
   have v2:∀o o' o2:aj,(((H3.set (H.length+2) o).set (H.length+3) o').set (H.length+7) o2)[H.length+2]? =some o:=fun o o' o2=>by rw[List.getElem?_set_ne (by omega),List.getElem?_set_ne (by omega),List.getElem?_set_self (by omega)]
   have v3:∀o o' o2:aj,(((H3.set (H.length+2) o).set (H.length+3) o').set (H.length+7) o2)[H.length+3]? =some o':=fun o o' o2=>by rw[List.getElem?_set_ne (by omega),List.getElem?_set_self (by simp;omega)]
   simp(disch:=omega)only[wk,ae,↓reduceIte,reduceEqDiff,reduceEq,reduceAdd,reduceCtorEq,v2,v3];intro i hi;rw[List.getElem?_set_ne (by omega),List.getElem?_set_ne (by omega),List.getElem?_set_ne (by omega)];exact s0 i _ (by omega) (ap i hi)
 . refine⟨_,H2,2,.ret,tm,[31],lY,lX,hic,aO q8,by decide,rfl, ?_⟩;have e:=Gy q1 q2 q3;rw[e]
   have g7:∀o:aj,(H2.set (H.length+8) o)[H.length+7]? =some .cO:=fun o=>by rw[List.getElem?_set_ne (by omega)];exact q7
   have v2:∀o o2:aj,((H2.set (H.length+8) o).set (H.length+7) o2)[H.length+2]? =some (.cells [.int .i64 x.a]):=fun o o2=>by rw[List.getElem?_set_ne (by omega),List.getElem?_set_ne (by omega)];exact q5
   have v3:∀o o2:aj,((H2.set (H.length+8) o).set (H.length+7) o2)[H.length+3]? =some (.cells [.int .i64 0]):=fun o o2=>by rw[List.getElem?_set_ne (by omega),List.getElem?_set_ne (by omega)];exact q6
   simp(disch:=omega)only[wk,ae,↓reduceIte,reduceEqDiff,reduceEq,reduceAdd,reduceCtorEq];rw[eL (g7 _)];simp(disch:=omega)only[wk,ae,↓reduceIte,reduceEqDiff,reduceEq,reduceAdd,reduceCtorEq,v2,v3];intro i hi;rw[List.getElem?_set_ne (by omega),List.getElem?_set_ne (by omega)];exact q4 i hi
theorem HM (v:Nat) (a b:AV) (H:ab):pcx (cbL aW) 42 [.ptr v 0,a,b] H=none:=aY rfl (bq (fi:=c42) rfl rfl)
theorem FZ {G:ab} {mo id n:Nat} {many:Int} {p:Nat->Bool} (B:BM G mo id n many p):(cbL tab).ic 41 [.ptr mo 0] G=some (.ret (.int .i64 (many-(cV p (64*n):Nat))),G):=by
 have ln:=Ad B;have n0:=lS B;obtain⟨m,w,lo,hi,few⟩:=B;have:=cA (tab:=tab) (f:=41) (fi:=c41) (args:=[.ptr mo 0]) (H:=G) (P:=fun o G'=>o= .ret (.int .i64 (many-(cV p (64*n):Nat)))/\G'=G) rfl rfl (by simp[c41]) (by decide) ?_
 . obtain⟨o,G',e1,rfl,rfl⟩:=this;exact e1
 have l1:(cbL tab).cj 75=false:=rfl;have l2:(cbL tab).cj 74=false:=rfl;unfold c41;simp(disch:=omega)only[wk,ae,↓reduceIte,reduceEqDiff,reduceEq,reduceAdd,reduceCtorEq,m,BQ,NC,aB l1,aB l2,n0,ln]
 refine ba (fun(k:Nat) E df G'=>k<=n/\G'=G/\E 3= .int .i64 (many-(cV p (64*k):Nat))/\E 13= .msl 1 id 0 n/\E 14= .int .i64 (n:Int)/\E 15= .int .i64 (k:Int)/\df=[])
   (fun k=>n-k) 0 (by decide) (.inl rfl) ⟨Nat.zero_le _,rfl,by simp only[en,↓reduceIte,reduceEqDiff];simp[cV],rfl,rfl,rfl,rfl⟩ ?_
 intro k E df G' ih hP;obtain⟨hk,rfl,E3,E13,E14,E15,hdf⟩:=hP;subst hdf;by_cases hkn:k<n
 . have n1:(k:Int)<(n:Int):=by omega
   have g1:=Ay p hkn
   have on:=fun H=>KK (fun j=>p (64*k+j)) H
   have ca:=mK p (64*k) 64;have c1:=mU p (64*k);have c2:=mU (fun j=>p (64*k+j)) 64
   have w1:IntKind.i64.wrap (many-(cV p (64*k):Nat)-(cV (fun j=>p (64*k+j)) 64:Nat))=many-(cV p (64*(k+1)):Nat):=by
     rw[wrap_i64 (by omega) (by omega),show 64*(k+1)=64*k+64 by omega,ca];omega
   simp(disch:=omega)only[wk,ae,↓reduceIte,reduceEqDiff,reduceEq,reduceAdd,reduceCtorEq,E3,E13,E14,E15,n1,w,Nat.zero_add,g1,on,w1];exact ih (k+1) _ _ _ (by omega) ⟨hkn,rfl,by simp only[en,↓reduceIte,reduceEqDiff],by simp only[en,↓reduceIte,reduceEqDiff,E13],by simp only[en,↓reduceIte,reduceEqDiff,E14],by simp only[en,↓reduceIte,reduceEqDiff],rfl⟩
 . have e:k=n:=by omega
   subst e
   have n1:¬(k:Int)<(k:Int):=by omega
   simp(disch:=omega)only[wk,ae,↓reduceIte,reduceEqDiff,reduceEq,reduceAdd,reduceCtorEq,E3,E13,E14,E15,n1]
theorem zG (v:Nat) (H:ab):pcx (cbL aW) 41 [.ptr v 0] H=none:=aY rfl (bq (fi:=c41) rfl rfl)
theorem Kk {G:ab} {v:AV} {l:List Rn} (h:Own G 2 v l.length (ah rnA l)) (hne:∀s n c,v≠ .sl s n c .e):qD (bS G 4 v)=eK 2 rnA l:=by
 rcases h with⟨h0,h1,h2⟩|⟨h0,g,rfl,hg⟩
 . have:l=[]:=List.length_eq_zero_iff.1 h1;subst this
   rcases h0 with rfl|rfl
   . rfl
   . exact absurd rfl (hne _ _ _)
 . have hu:(ah rnA l).map aA=ah rnA l:=by
     clear hg h0 hne
     induction l with
     |nil=>rfl
     |cons x l ih=>rw[aK,List.map_append,ih];rfl
   have:l.isEmpty=false:=by cases l<;>simp at h0 ⊢
   unfold eK;rw[this];show AV.sl 2 l.length ((ah rnA l).map aA) .ro=_
   rw[hu];rfl
theorem GF {G:ab} {v:AV} {l:List Rn} (h:Own G 2 v l.length (ah rnA l)) (hne:∀s n c,v≠ .sl s n c .e):dx (some (.ret v,G))=some (.plain (eK 2 rnA l)):=by
 have e:lP G v=eK 2 rnA l:=by
   rw[<-Kk h hne]
   rcases h with⟨h0|h0,_,_⟩|⟨_,g,h0,_⟩<;>rw[h0]<;>rfl
 obtain⟨s,tk,e2,_,e3⟩:=iP 2 rnA l;simp only[dx,e];rw[if_pos];rw[e2];simp only[AV.hf,bJ uB,e3,Bool.and_self]
def hO:Int->List Rn->List Rn
 |_,[]=>[]
 |mn,r::l=>if mn=0 then [] else⟨r.a,if mn<r.m then mn else r.m⟩::hO (mn-if mn<r.m then mn else r.m) l
theorem Jv {L:List Rn} {s:Nat} {tk:Tk} (hs:L≠[]->s=2) (hl:L.length<=1000) (htk:(aE (.sl s L.length (ah rnA L) tk)).hf=true) (bd:∀x∈L,0<x.m/\x.m<=100000) {mn:Int} (h0:0<=mn) (h1:mn<=100000) (H:ab):
   pcx (cbL tab) 43 [.int .i64 mn,.sl s L.length (ah rnA L) tk] H=some (.plain (eK 2 rnA (hO mn L))):=by
 have hh:=bJ uB L
 obtain⟨t2,ht2,hth⟩:∃t2,aE (.sl s L.length (ah rnA L) tk)= .sl s L.length (ah rnA L) t2/\t2.hf=true:=by
   cases tk with
   |own g=>exact⟨.ro,rfl,rfl⟩
   |_=>exact⟨_,rfl,by simpa[AV.hf,aE,aA,hh] using htk⟩
 refine aU rfl (cW (fi:=c43) rfl ?_ (by simp[c43]) (by decide) ?_)
 . simp only[bV,List.map_cons,List.map_nil,aD,ht2,c43];simp only[hfL,AV.hf,hh,hth,Bool.and_self]
 unfold c43;rw[List.map_cons,List.map_cons,List.map_nil,aD,ht2];simp(disch:=omega)only[wk,ae,↓reduceIte,reduceEqDiff,reduceEq,reduceAdd,reduceCtorEq]
 refine ba (fun(x:List Rn×List Rn×List Rn×Int) E df G=>L=x.1++x.2.1/\hO mn L=x.2.2.1++hO x.2.2.2 x.2.1/\0<=x.2.2.2/\x.2.2.2<=100000/\E 0= .int .i64 x.2.2.2/\Own G 2 (E 4) x.2.2.1.length (ah rnA x.2.2.1)/\(∀s n c,E 4≠ .sl s n c .e)/\x.2.2.1.length<=x.1.length/\E 7= .sl s L.length (ah rnA L) t2/\E 8= .int .i64 (L.length:Int)/\E 9= .int .i64 (x.1.length:Int)/\df=[])
   (fun x=>x.2.1.length) ([],L,[],mn) (by decide) (.inl rfl) ⟨rfl,rfl,h0,h1,rfl,.inl ⟨.inl rfl,rfl,rfl⟩,(fun s n c e=>by cases e),Nat.le_refl _,rfl,rfl,rfl,rfl⟩ ?_
 intro ⟨pre,suf,out,q⟩ E df G ih hP;obtain⟨a1,a2,a3,a4,E0,E4,E4e,lo,E7,E8,E9,hdf⟩:=hP;dsimp only at a1 a2 a3 a4 E0 E4 lo E9;subst hdf
 have fin:∀G':ab,Own G' 2 (E 4) out.length (ah rnA out)->dx (some (.ret (E 4),G'))=some (.plain (eK 2 rnA out)):=fun G' ho=>GF ho E4e
 cases suf with
 | nil=>
   have n1:¬(pre.length:Int)<(L.length:Int):=by rw[a1];simp
   rw[hO,List.append_nil]at a2;simp(disch:=omega)only[wk,ae,↓reduceIte,reduceEqDiff,reduceEq,reduceAdd,reduceCtorEq,E0,E7,E8,E9,n1];rw[a2];exact fin _ E4
 | cons x r=>
   have la:L.length=pre.length+(r.length+1):=by rw[a1];simp
   have n1:(pre.length:Int)<(L.length:Int):=by omega
   obtain rfl:=hs (by rw[a1];simp);have d1:=Bk pre x r;rw[<-a1]at d1;obtain⟨b1,b2⟩:=bd x (by rw[a1];simp)
   have g0:∀L:List aj,(G++L)[G.length]? =L[0]? :=fun L=>by rw[List.getElem?_append_right (Nat.le_refl _),Nat.sub_self]
   have t0:∀(L:List aj) (o:aj),(G++L).set G.length o=G++L.set 0 o:=fun L o=>by rw[List.set_append_right _ _ (Nat.le_refl _),Nat.sub_self]
   rw[hO]at a2;by_cases hq:q=0
   . subst hq;rw[if_pos rfl,List.append_nil]at a2;simp(disch:=omega)only[wk,ae,↓reduceIte,reduceEqDiff,reduceEq,reduceAdd,reduceCtorEq,E0,E7,E8,E9,n1,d1,g0,t0];rw[a2];exact fin _ (E4.kept (g:=none) (fun j o h _=>by rw[List.getElem?_append_left (List.getElem?_eq_some_iff.1 h).1];exact h) (.inl rfl))
   . rw[if_neg hq]at a2
     obtain⟨m,hm⟩:∃m,m=if q<x.m then q else x.m:=⟨_,rfl⟩
     have hm2:0<m/\m<=q/\m<=100000:=by
       rw[hm];split<;>omega
     rw[<-hm]at a2;have w1:IntKind.i64.wrap (q-m)=q-m:=wrap_i64 (by omega) (by omega);by_cases hx:q<x.m
     . rw[if_pos hx]at hm;rw[hm]at a2 w1;simp(disch:=omega)only[wk,ae,↓reduceIte,reduceEqDiff,reduceEq,reduceAdd,reduceCtorEq,E0,E7,E8,E9,n1,d1,g0,t0,hq,hx,w1];refine bR (E4.kept (g:=none) (fun j o h _=>by rw[List.getElem?_append_left (List.getElem?_eq_some_iff.1 h).1];exact h) (.inl rfl)) (by decide) (by omega) (by omega) (by decide) rfl rfl (fun H2 q1 q2 q3=> ?_);simp(disch:=omega)only[wk,ae,↓reduceIte,reduceEqDiff,reduceEq,reduceAdd,reduceCtorEq,E0,E7,E8,E9];refine ih (pre++[x],r,out++[⟨x.a,q⟩],q-q) _ _ _ (by simp) ⟨by simp[a1],by rw[a2];simp,by simp only;omega,by simp only;omega,by simp only[en,↓reduceIte,reduceEqDiff], ?_,fun s n c e=> ?_,by simp;omega,by simp only[en,↓reduceIte,reduceEqDiff,E7],by simp only[en,↓reduceIte,reduceEqDiff,E8],by simp only[en,↓reduceIte,reduceEqDiff],rfl⟩
       . simp only[en,↓reduceIte,reduceEqDiff];rw[aZ];rw[List.length_append]at q1;exact q1
       . revert e;simp only[en,↓reduceIte,reduceEqDiff];intro e;cases e
     . rw[if_neg hx]at hm;rw[hm]at a2 w1;simp(disch:=omega)only[wk,ae,↓reduceIte,reduceEqDiff,reduceEq,reduceAdd,reduceCtorEq,E0,E7,E8,E9,n1,d1,g0,t0,hq,hx,w1];refine bR (E4.kept (g:=none) (fun j o h _=>by rw[List.getElem?_append_left (List.getElem?_eq_some_iff.1 h).1];exact h) (.inl rfl)) (by decide) (by omega) (by omega) (by decide) rfl rfl (fun H2 q1 q2 q3=> ?_);simp(disch:=omega)only[wk,ae,↓reduceIte,reduceEqDiff,reduceEq,reduceAdd,reduceCtorEq,E0,E7,E8,E9];refine ih (pre++[x],r,out++[⟨x.a,x.m⟩],q-x.m) _ _ _ (by simp) ⟨by simp[a1],by rw[a2];simp,by simp only;omega,by simp only;omega,by simp only[en,↓reduceIte,reduceEqDiff], ?_,fun s n c e=> ?_,by simp;omega,by simp only[en,↓reduceIte,reduceEqDiff,E7],by simp only[en,↓reduceIte,reduceEqDiff,E8],by simp only[en,↓reduceIte,reduceEqDiff],rfl⟩
       . simp only[en,↓reduceIte,reduceEqDiff];rw[aZ];rw[List.length_append]at q1;exact q1
       . revert e;simp only[en,↓reduceIte,reduceEqDiff];intro e;cases e
def l6:aC:=(.region [qo 5 (.alloc [(.int .i64 0),(.int .i64 0)]),qe (.store 2 (.t 5) (.t 7))])
def mB:aC:=(.block 1 (.region [ql 8 2,qL 9 2 5,qo 10 (.bc 2 1 [(.int .i64 0),(.int .i64 0)] [(0,(2,(.t 9)))]),qo 11 (.append 2 16 (.t 8) (.t 10)),qs 2 (.t 11)]))
def Ax (C:List AV) (W:List Rn) (vb:Nat):Prop:=∀{id N:Nat} {H:ab} (J:List Rn->ab->Prop) (Dn:ab->Prop),N<=H.length->H[vb]? =some (.cells C)->(∀pre x post G,W=pre++x::post->J pre G->N<=G.length->∃b G',(cbL aW).yl id [.agg (rnA x)] G=some (.ret (.bool b),G')/\N<=G'.length/\if b=true then J (pre++[x]) G' else Dn G')->(∀L,J [] (H++L))->∃G,(cbL aW).ic 37 [.yld id,.ptr vb 0] H=some (.ret (.tup []),G)/\(J W G∨Dn G)
structure CoS (H:ab) (b:Nat) (l:List Rn) (lo:aj) (v:AV) (G:ab):Prop where
 fo:Own G 2 v l.length (ah rnA l)
 fe:∀s n c,v≠ .sl s n c .e
 fv:G[b]? =some (.cells [v])
 fd:G[b+1]? =some .cO
 fl:G[b+2]? =some lo
 fh:∀i,i<b->G[i]? =H[i]?
 ft:∀g,iL v=some g->b+3<=g
theorem DL {H:ab} {b:Nat} {W:List Rn} {tm:List AV} {E:Env} (ha:Ag 13 tm E) (E2:E 2= .ptr b 0) {pre post:List Rn} {x:Rn} {G:ab} (hW:W.length<=1000) (hS:W=pre++x::post) (hJ:∃v,CoS H b pre (.loop 0 .normal tm [7] l6 mB) v G) (hl:b+3<=G.length):
   ∃c G',(cbL aW).yl (b+2) [.agg (rnA x)] G=some (.ret (.bool c),G')/\b+3<=G'.length/\if c=true then(∃v,CoS H b (pre++[x]) (.loop 0 .normal tm [7] l6 mB) v G')else False:=by
 obtain⟨v,S⟩:=hJ
 obtain⟨P,hP⟩:∃P:Bool->ab->Prop,P=fun c G'=>b+3<=G'.length/\if c=true then(∃v,CoS H b (pre++[x]) (.loop 0 .normal tm [7] l6 mB) v G')else False:=⟨_,rfl⟩
 have key:=tX (tab:=aW) (id:=b+2) (P:=P) (args:=[.agg (rnA x)]) (H:=G) (aO S.fl) ha rfl (by decide) (by decide) (by decide) (by decide) (by decide) ?_
 . rw[hP]at key;exact key
 have lW:W.length=pre.length+(post.length+1):=by rw[hS];simp
 have ex:rnA x=[.int .i64 x.a,.int .i64 x.m]:=rfl
 have g0:∀L:List aj,(G++L)[G.length]? =L[0]? :=fun L=>by rw[List.getElem?_append_right (Nat.le_refl _),Nat.sub_self]
 have t0:∀(L:List aj) (o:aj),(G++L).set G.length o=G++L.set 0 o:=fun L o=>by rw[List.set_append_right _ _ (Nat.le_refl _),Nat.sub_self]
 have gk:∀i,i<G.length->∀L:List aj,(G++L)[i]? =G[i]? :=fun i hi L=>List.getElem?_append_left hi
 unfold l6;rw[ex];simp(disch:=omega)only[wk,ae,↓reduceIte,reduceEqDiff,reduceEq,reduceAdd,reduceCtorEq,fN,gL,g0,t0];refine⟨rfl,rfl,_,_,_,_,_,aO (by rw[gk _ (by omega)];exact S.fl), ?_⟩;obtain⟨G1,hG1⟩:∃G1,G1=(G++[aj.cells [.int .i64 x.a,.int .i64 x.m]]).set (b+2) (.loop 1 .normal tm [7] l6 mB):=⟨_,rfl⟩;rw[<-hG1]
 have l1:G1.length=G.length+1:=by rw[hG1];simp
 have k1:∀i,i<G.length->i≠b+2->G1[i]? =G[i]? :=fun i h1 h2=>by rw[hG1,List.getElem?_set_ne (Ne.symm h2),gk _ h1]
 have c1:G1[G.length]? =some (.cells [.int .i64 x.a,.int .i64 x.m]):=by rw[hG1,List.getElem?_set_ne (by omega),g0];rfl
 have lo1:G1[b+2]? =some (.loop 1 .normal tm [7] l6 mB):=by rw[hG1,List.getElem?_set_self (by simp;omega)]
 have v1:=(k1 _ (by omega) (by omega)).trans S.fv;have d1:=(k1 _ (by omega) (by omega)).trans S.fd
 have o1:Own G1 2 v pre.length (ah rnA pre):=by
   rw[hG1];refine Own.set (o:= .loop 0 .normal tm [7] l6 mB) (S.fo.kept (g:=none) (fun j o h _=>by rw[List.getElem?_append_left (List.getElem?_eq_some_iff.1 h).1];exact h) (.inl rfl)) ?_ (fun s e=>by cases e)
   rw[gk _ (by omega)];exact S.fl
 have fv:au [v]=true/\v.flat=[v]:=by
   rcases o1 with⟨h|h,_,_⟩|⟨_,g,h,_⟩<;>rw[h]<;>exact⟨rfl,rfl⟩
 unfold mB;simp(disch:=omega)only[wk,ae,↓reduceIte,reduceEqDiff,reduceEq,reduceAdd,reduceCtorEq,E2,v1,fv.1,c1];refine bR o1 (by decide) (by omega) (by omega) (by decide) rfl rfl (fun H2 q1 q2 q3=> ?_)
 have v2:=q2.cells o1 rfl v1 fun s e=>by cases e
 have d2:=q2.cells o1 rfl d1 fun s e=>by cases e
 have lo2:=q2.cells o1 rfl lo1 fun s e=>by cases e
 simp(disch:=omega)only[wk,ae,↓reduceIte,reduceEqDiff,reduceEq,reduceAdd,reduceCtorEq,E2,v2];refine⟨rfl,1,.normal,tm,[7],l6,mB,aO (by rw[List.getElem?_set_ne (by omega)];exact lo2), ?_⟩;rw[hP];refine⟨by simp;omega, ?_⟩;rw[if_pos rfl];refine⟨.sl 2 (pre.length+1) (ah rnA pre++[.int .i64 x.a,.int .i64 x.m]) (.own G1.length), ?_,fun s n c e=>by(cases e), ?_, ?_, ?_,fun i hi=> ?_,fun g hg=>by cases hg;omega⟩
 . rw[List.length_append,aZ]
   exact(q1.set (q:= .cells [_]) v2 fun s e=>by cases e).set (o:= .loop 1 .normal tm [7] l6 mB) (by rw[List.getElem?_set_ne (by omega)];exact lo2) fun s e=>by cases e
 . rw[List.getElem?_set_ne (by omega),List.getElem?_set_self (by omega)]
 . rw[List.getElem?_set_ne (by omega),List.getElem?_set_ne (by omega)];exact d2
 . rw[List.getElem?_set_self (by simp;omega)]
 . rw[List.getElem?_set_ne (by omega),List.getElem?_set_ne (by omega),<-S.fh i hi,<-k1 i (by omega) (by omega)]
   have hi1:i<G1.length:=by omega
   rw[List.getElem?_eq_getElem hi1]
   exact q2 i _ (List.getElem?_eq_getElem hi1) fun e=>by have:=S.ft i e;omega
theorem Ct {C:List AV} {W:List Rn} {vb:Nat} {H:ab} (hW:W.length<=1000) (prod:Ax C W vb) (hv:H[vb]? =some (.cells C)):
   ∃v G,(cbL aW).ic 78 [.sl 0 0 [] .z,.fn 37 [.ptr vb 0]] H=some (.ret v,G)/\Own G 2 v W.length (ah rnA W)/\(∀s n c,v≠ .sl s n c .e)/\∀i,i<H.length->G[i]? =H[i]? :=by
 have:=cA (tab:=aW) (f:=78) (fi:=c78) (args:=[.sl 0 0 [] .z,.fn 37 [.ptr vb 0]]) (H:=H) (P:=fun o G=>∃v,o= .ret v/\Own G 2 v W.length (ah rnA W)/\(∀s n c,v≠ .sl s n c .e)/\∀i,i<H.length->G[i]? =H[i]?) rfl rfl (by simp[c78]) (by decide) ?_
 . obtain⟨o,G,e1,v,rfl,e2⟩:=this;exact⟨v,G,e1,e2⟩
 unfold c78;simp(disch:=omega)only[wk,ae,↓reduceIte,reduceEqDiff,reduceEq,reduceAdd,reduceCtorEq];obtain⟨H1,hH1⟩:∃H1,H1=H++[aj.cells [.sl 0 0 [] .z]]:=⟨_,rfl⟩;rw[<-hH1]
 have l3:H1.length=H.length+1:=by rw[hH1];simp
 refine gJ («as» :=l6) (bd:=mB) (f:=37) (caps:=[.ptr vb 0]) (by simp only[en,↓reduceIte,reduceEqDiff,oz]) (fun tm ha=> ?_);rw[l3];obtain⟨H0,hH0⟩:∃H0,H0=H1++[aj.cO,.loop 0 .normal tm [7] l6 mB]:=⟨_,rfl⟩;rw[<-hH0]
 have l0:H0.length=H.length+3:=by rw[hH0];simp[l3]
 have ap:∀i,i<H.length->H0[i]? =H[i]? :=fun i hi=>by rw[hH0,hH1,List.append_assoc,List.getElem?_append_left hi]
 have aq:∀i,H0[H.length+i]? =[aj.cells [.sl 0 0 [] .z],.cO,.loop 0 .normal tm [7] l6 mB][i]? :=fun i=>by rw[hH0,hH1,List.append_assoc,List.getElem?_append_right (by omega),Nat.add_sub_cancel_left];rfl
 have lv:=(List.getElem?_eq_some_iff.1 hv).1
 obtain⟨H2,hic,hJD⟩:=prod (id:=H.length+2) (N:=H.length+3) (H:=H0) (fun pre G=>∃v,CoS H H.length pre (.loop 0 .normal tm [7] l6 mB) v G) (fun _=>False) (by omega) ((ap _ lv).trans hv) (fun pre x post G hS hJ hl=>DL ha (by simp only[en,↓reduceIte,reduceEqDiff]) hW hS hJ hl)
   (fun L=>by
     have ul:∀(i:Nat) (q:aj),H0[i]? =some q->(H0++L)[i]? =some q:=fun i q hq=>by
       rw[List.getElem?_append_left (List.getElem?_eq_some_iff.1 hq).1];exact hq
     exact⟨.sl 0 0 [] .z,.inl ⟨.inl rfl,rfl,rfl⟩,fun s n c e=>by(cases e),ul _ _ (aq 0),ul _ _ (aq 1),ul _ _ (aq 2),fun i hi=>by rw[List.getElem?_append_left (by omega)];exact ap i hi,fun g hg=>by cases hg⟩)
 obtain⟨v,S⟩:=hJD.resolve_right id;refine⟨_,H2,0,.normal,tm,[7],l6,mB,hic,aO S.fl,by decide,rfl, ?_⟩;have hl2:=(List.getElem?_eq_some_iff.1 S.fl).1
 have v3:∀o:aj,(H2.set (H.length+2) o)[H.length]? =some (.cells [v]):=fun o=>by rw[List.getElem?_set_ne (by omega)];exact S.fv
 have d3:∀o:aj,(H2.set (H.length+2) o)[H.length+1]? =some .cO:=fun o=>by rw[List.getElem?_set_ne (by omega)];exact S.fd
 have fv:au [v]=true/\v.flat=[v]:=by
   rcases S.fo with⟨h|h,_,_⟩|⟨_,g,h,_⟩<;>rw[h]<;>exact⟨rfl,rfl⟩
 simp(disch:=omega)only[wk,ae,↓reduceIte,reduceEqDiff,reduceEq,reduceAdd,reduceCtorEq,v3];rw[eL (d3 _)];simp(disch:=omega)only[wk,ae,↓reduceIte,reduceEqDiff,reduceEq,reduceAdd,reduceCtorEq];refine⟨v,rfl,(S.fo.set S.fl (fun s e=>by cases e)).set (d3 _) (fun s e=>by cases e),S.fe,fun i hi=> ?_⟩;rw[List.getElem?_set_ne (by omega),List.getElem?_set_ne (by omega)];exact S.fh i hi
theorem zU {C:List AV} {W:List Rn} {vb:Nat} {H:ab} (hW:W.length<=1000) (prod:Ax C W vb) (hv:H[vb]? =some (.cells C)):
   ∃v G,(cbL aW).ic 44 [.fn 37 [.ptr vb 0]] H=some (.ret v,G)/\Own G 2 v W.length (ah rnA W)/\(∀s n c,v≠ .sl s n c .e)/\∀i,i<H.length->G[i]? =H[i]? :=by
 obtain⟨v,G,a1,a2,a3,a4⟩:=Ct (H:=H) hW prod hv;refine⟨v,G, ?_,a2,a3,a4⟩;have:=cA (tab:=aW) (f:=44) (fi:=c44) (args:=[.fn 37 [.ptr vb 0]]) (H:=H) (P:=fun o G'=>o= .ret v/\G'=G) rfl rfl (by simp[c44]) (by decide) ?_
 . obtain⟨o,G',e1,rfl,rfl⟩:=this;exact e1
 have pa:∀(a:AV) (f:FuncId) (q:Nat) (H:ab),pcx (cbL aW) 78 [a,.fn f [.ptr q 0]] H=none:=fun a f q H=>aY rfl (bq (fi:=c78) rfl (by
   show hfL [aE a,_]=false
   simp[hfL,AV.hf,aE,aA]))
 have ll:(cbL aW).cj 78=false:=rfl;unfold c44;simp(disch:=omega)only[wk,ae,↓reduceIte,reduceEqDiff,reduceEq,reduceAdd,reduceCtorEq,pa,aB ll,a1]
theorem xT (p:Nat->Bool):∀n,(∀i,i<n->p i=true)->cV p n=n
 |0,_=>rfl
 |n+1,h=>by rw[cV,xT p n fun i hi=>h i (by omega),h n (by omega)];rfl
theorem si (p:Nat->Bool):∀n,cV p (n+1)=(if p 0 then 1 else 0)+cV (fun i=>p (i+1)) n
 |0=>by simp[cV]
 | n+1=>by
   rw[cV,si p n,cV,Nat.add_assoc]
theorem Bz (q:Nat->Bool):∀(k a:Nat),(cT (fun b=> !q b.toNat) (a:Int) k).length+cV (fun i=>q (a+i)) k=k
 |0,_=>rfl
 | k+1,a=>by
   have ih:=Bz q k (a+1);rw[si,cT]
   have e:cV (fun i=>q (a+(i+1))) k=cV (fun i=>q (a+1+i)) k:=qC k fun i _=>by rw[show a+(i+1)=a+1+i by omega]
   rw[show(a:Int)+1=((a+1:Nat):Int)by omega];rw[Nat.add_zero,Int.toNat_natCast,e]
   cases q a with
   | true=>
     simp only[Bool.not_true,Bool.false_eq_true,if_false,if_true];omega
   | false=>
     simp only[Bool.not_false,Bool.false_eq_true,if_false,if_true,List.length_cons];omega
theorem Dx {f:Frm} {bl:List Int} (hd:0<=dF f) (hb:dF f<=f.b) (h64:f.b<=64) (h:∀x∈bl,dF f<=x/\x<f.b):((fE f bl).length:Int)=f.b-(cV (pB f bl) 64:Nat):=by
 obtain⟨d,hd'⟩:=Int.eq_ofNat_of_zero_le hd;obtain⟨k,hk⟩:∃k,k=(f.b-dF f).toNat:=⟨_,rfl⟩;obtain⟨r,hr⟩:∃r,64=d+k+r:=⟨64-d-k,by omega⟩;have c1:=Bz (pB f bl) k d;have c2:=mK (pB f bl) d k;have c3:=mK (pB f bl) (d+k) r
 have c4:=xT (pB f bl) d fun i hi=>by unfold pB;rw[decide_eq_true (by omega)];rfl
 have c5:=rj (fun i=>pB f bl (d+k+i)) r fun i hi=>by
   unfold pB
   rw[decide_eq_false (by omega),decide_eq_false fun hm=>by have:=h _ hm;omega];rfl
 unfold fE;rw[<-hk,hd',hr,c3,c2];omega
theorem Bw {f:Frm} {bl:List Int} {m:Nat} (hm:f.b=(m:Nat)) (hd:0<=dF f) (hb:dF f<=f.b) (hs:bl.Pairwise (· < ·)) (h:∀x∈bl,dF f<=x/\x<f.b):dC (m:Int) 0 (cR (pB f bl) ⟨0,0⟩ 0 m)=cr (dF f) (bl++[f.b]):=by
 obtain⟨d,hd'⟩:=Int.eq_ofNat_of_zero_le hd;obtain⟨k,hk⟩:∃k,m=d+k:=⟨m-d,by omega⟩;rw[hd',hm,hk];refine Jd (pB f bl) d k bl hs (fun x hx=>by have:=h x hx;omega) (fun i hi=> ?_) (fun i h1 h2=> ?_)
 . unfold pB;rw[decide_eq_true (by omega)];rfl
 . unfold pB;rw[decide_eq_false (by omega)];rfl
def dp (f:Frm) (bl:List Int) (mn:Int):List Rn×Int:=
 if mn<0∨2048<mn then([],2)else if mn=0 then([],0)else if((fE f bl).length:Int)<mn then([],221)
 else if(hM (cr (dF f) (bl++[f.b])) mn).2=0 then([⟨(hM (cr (dF f) (bl++[f.b])) mn).1,mn⟩],0)else(hO mn (cr (dF f) (bl++[f.b])),0)
theorem sZ {G:ab} (l:List Rn) (k:Int):dx (some (.ret (.tup [eK 2 rnA l,.int .i64 k]),G))=some (.plain (.tup [eK 2 rnA l,.int .i64 k])):=by
 have hu:(ah rnA l).map aA=ah rnA l:=by
   induction l with
   |nil=>rfl
   |cons x l ih=>rw[aK,List.map_append,ih];rfl
 have e:lP G (.tup [eK 2 rnA l,.int .i64 k])= .tup [eK 2 rnA l,.int .i64 k]:=by
   show AV.tup [qD (bS G 4 (eK 2 rnA l)),_]=_
   have e2:qD (bS G 4 (eK 2 rnA l))=eK 2 rnA l:=by
     unfold eK;split
     . show AV.sl 0 l.length ((ah rnA l).map aA) .z=_
       rw[hu]
     . show AV.sl 2 l.length ((ah rnA l).map aA) .ro=_
       rw[hu]
   rw[e2];rfl
 obtain⟨s,tk,e2,_,e3⟩:=iP 2 rnA l;simp only[dx,e];rw[if_pos];rw[e2];simp[AV.hf,hfL,bJ uB,e3]
theorem O1.shape {G:ab} {v:AV} {l:List Rn} (h:Own G 2 v l.length (ah rnA l)):∃s tk,v= .sl s l.length (ah rnA l) tk/\(l≠[]->s=2)/\(aE v).hf=true:=by
 rcases h with⟨h1,h2,h3⟩|⟨h0,g,rfl,hg⟩
 . have:l=[]:=List.length_eq_zero_iff.1 h2;subst this
   rcases h1 with rfl|rfl
   . exact⟨_,_,rfl,fun h=>absurd rfl h,rfl⟩
   . exact⟨_,_,rfl,fun _=>rfl,rfl⟩
 . refine⟨_,_,rfl,fun _=>rfl, ?_⟩;show(AV.sl 2 l.length (ah rnA l) .ro).hf=true
   simp[AV.hf,bJ uB,Tk.hf]
theorem Hl {f:Frm} {rt:Tv} {ns bl rl:List Int} {bv rv:AV} (I:Img f rt ns bl rl bv rv) (hz:NzR bl bv) (mn:Int) (H:ab):
   pcx (cbL aW) 13 [.agg (bW f (mkT rt ns) bv rv),.int .i64 mn] H=some (.plain (.tup [eK 2 rnA (if okI f bl rl then dp f bl mn else([],2)).1,.int .i64 (if okI f bl rl then dp f bl mn else([],2)).2])):=by
 have so:=fun H=>uw I H
 have hon:bV c13 [.agg (bW f (mkT rt ns) bv rv),.int .i64 mn]=true:=by
   simp only[bV,List.map_cons,List.map_nil,I.aE,aD,c13]
   have h1:(AV.agg (bW f (mkT rt ns) bv rv)).hf=true:=by
     have:=I.hf;simpa[hfL] using this
   show((AV.agg (bW f (mkT rt ns) bv rv)).hf&&((AV.int .i64 mn).hf&&true))=true
   rw[h1];rfl
 have o1:=I.b.one;have o2:=I.r.one;have li:=I.aE;have hf:=I.fo;unfold okF at hf;have b64:=I.b64
 have hd:0<=dF f:=by unfold dF;omega
 have hdb:dF f<=f.b:=by unfold dF;omega
 refine aU rfl (cW (fi:=c13) rfl hon (by simp[c13]) (by decide) ?_);unfold c13;rw[List.map_cons,List.map_cons,List.map_nil,li,aD]
 cases ok:okI f bl rl with
 | false=>
   rw[ok]at so;simp only[Bool.false_eq_true,if_false]at so ⊢;clear hon li I;generalize mkT rt ns=T at*;unfold bW z13 at*;simp(disch:=omega)only[wk,ae,↓reduceIte,reduceEqDiff,reduceEq,reduceAdd,reduceCtorEq,so,o1,o2,aI,cw];rfl
 | true=>
   rw[ok]at so;simp only[if_true]at so ⊢;by_cases c0:mn<0
   . have e:dp f bl mn=([],2):=by unfold dp;rw[if_pos (.inl c0)]
     rw[e];clear hon li I;generalize mkT rt ns=T at*;unfold bW at*;simp(disch:=omega)only[wk,ae,↓reduceIte,reduceEqDiff,reduceEq,reduceAdd,reduceCtorEq,so,o1,o2,c0,aI,cw];rfl
   by_cases c1:2048<mn
   . have e:dp f bl mn=([],2):=by unfold dp;rw[if_pos (.inr c1)]
     rw[e];clear hon li I;generalize mkT rt ns=T at*;unfold bW at*;simp(disch:=omega)only[wk,ae,↓reduceIte,reduceEqDiff,reduceEq,reduceAdd,reduceCtorEq,so,o1,o2,c0,c1,aI,cw];rfl
   obtain⟨C,hC⟩:∃C:List aj,C=[.cells (bW f (mkT rt ns) bv rv),.cells (bW f (mkT rt ns) bv rv)]:=⟨_,rfl⟩;obtain⟨mo,id,G,b1,b2,b3,b4,b5⟩:=An I ok C;have b1:=ze b1
   have cC0:C[0]? =some (.cells (bW f (mkT rt ns) bv rv)):=by rw[hC];rfl
   have cC1:C[1]? =some (.cells (bW f (mkT rt ns) bv rv)):=by rw[hC];rfl
   have rm:=jA ((Bool.and_eq_true _ _).mp (show(iN (9+f.i/4+f.r/4+1) f.b none bl&&iN 1 (f.r+1) none rl)=true from ok)).1
   have hr:∀x∈bl,dF f<=x/\x<f.b:=fun x hx=>by have:=rm.1 x hx;unfold dF;omega
   have lf:=ze (FZ b2);have fc:=Dx hd hdb b64 hr;rw[show 64*1=64 from rfl,<-fc]at lf;obtain⟨m,hm⟩:=Int.eq_ofNat_of_zero_le (show 0<=f.b by omega);have gp:=Bw hm hd hdb rm.2 hr
   have pb:∀(v:AV) (H:ab),pcx (cbL aW) 40 [v] H=none:=fun v H=>aY rfl (bq (fi:=c40) rfl rfl)
   have l1:(cbL aW).cj 40=false:=rfl;have l2:(cbL aW).cj 41=false:=rfl;have l3:(cbL aW).cj 42=false:=rfl
   have d0:G[0]? =some (.cells (bW f (mkT rt ns) bv rv)):=by rw[b5 0 (by rw[hC];simp),hC];rfl
   generalize hFL:((fE f bl).length:Int)=left at*;by_cases c2:mn=0
   . have e:dp f bl mn=([],0):=by unfold dp;rw[if_neg (by omega),if_pos c2]
     rw[e];clear hon li I fc hFL;generalize mkT rt ns=T at*;have im:bW f T bv rv=[.int .i64 f.b,.int .i64 f.i,.int .i64 f.r,.int .i64 f.t,.int .u64 5,.int .u64 6,.int .i64 9,.int .i64 (9+f.i/4),.int .i64 (9+f.i/4+f.r/4),.int .i64 (dF f),.sl 7 T.length (ah tvC T) .ro,bv,rv]:=rfl;rw[im]at so b1 hC cC0 cC1 ⊢;simp(disch:=omega)only[wk,ae,↓reduceIte,reduceEqDiff,reduceEq,reduceAdd,reduceCtorEq,so,o1,o2,c0,c1,<-hC,cC0,cC1,pb,aB l1,b1,c2,aI,cw];rfl
   by_cases c3:left<mn
   . have e:dp f bl mn=([],221):=by unfold dp;rw[if_neg (by omega),if_neg c2,hFL,if_pos c3]
     rw[e];clear hon li I fc hFL;generalize mkT rt ns=T at*;have im:bW f T bv rv=[.int .i64 f.b,.int .i64 f.i,.int .i64 f.r,.int .i64 f.t,.int .u64 5,.int .u64 6,.int .i64 9,.int .i64 (9+f.i/4),.int .i64 (9+f.i/4+f.r/4),.int .i64 (dF f),.sl 7 T.length (ah tvC T) .ro,bv,rv]:=rfl;rw[im]at so b1 hC cC0 cC1 ⊢;simp(disch:=omega)only[wk,ae,↓reduceIte,reduceEqDiff,reduceEq,reduceAdd,reduceCtorEq,so,o1,o2,c0,c1,<-hC,cC0,cC1,pb,aB l1,b1,c2,zG,aB l2,lf,c3,aI,cw];rfl
   rw[hm]at b2;obtain⟨G2,f1,f2⟩:=GV b2 (mn:=mn) (by omega) (by omega);rw[gp]at f1;by_cases c4:(hM (cr (dF f) (bl++[f.b])) mn).2=0
   . have e:dp f bl mn=([⟨(hM (cr (dF f) (bl++[f.b])) mn).1,mn⟩],0):=by unfold dp;rw[if_neg (by omega),if_neg c2,hFL,if_neg c3,if_pos c4]
     rw[e]
     have pr:=fun G=>sZ (G:=G) [⟨(hM (cr (dF f) (bl++[f.b])) mn).1,mn⟩] 0
     generalize (hM (cr (dF f) (bl++[f.b])) mn).1=A at*;generalize (hM (cr (dF f) (bl++[f.b])) mn).2=B at*;subst c4;clear hon li I fc hFL;generalize mkT rt ns=T at*;have im:bW f T bv rv=[.int .i64 f.b,.int .i64 f.i,.int .i64 f.r,.int .i64 f.t,.int .u64 5,.int .u64 6,.int .i64 9,.int .i64 (9+f.i/4),.int .i64 (9+f.i/4+f.r/4),.int .i64 (dF f),.sl 7 T.length (ah tvC T) .ro,bv,rv]:=rfl;rw[im]at so b1 hC cC0 cC1 ⊢;simp(disch:=omega)only[wk,ae,↓reduceIte,reduceEqDiff,reduceEq,reduceAdd,reduceCtorEq,so,o1,o2,c0,c1,<-hC,cC0,cC1,pb,aB l1,b1,c2,zG,aB l2,lf,c3,HM,aB l3,f1,aI,cw];exact pr _
   . have e:dp f bl mn=(hO mn (cr (dF f) (bl++[f.b])),0):=by unfold dp;rw[if_neg (by omega),if_neg c2,hFL,if_neg c3,if_neg c4]
     rw[e]
     have bd:∀x∈cr (dF f) (bl++[f.b]),0<=x.a/\0<x.m/\x.a+x.m<=(m:Int):=by
       rw[<-gp];exact mL m _ 0 (by omega) (by omega) (gx (pB f bl) m m 0 ⟨0,0⟩ (by omega) (.inl rfl))
     have gl:(cr (dF f) (bl++[f.b])).length<=1000:=by
       have:∀(l:List Int) (e:Int),(cr e l).length<=l.length:=by
         intro l
         induction l with
         |nil=>intro e;exact Nat.le_refl _
         | cons b r ih=>
           intro e;have:=ih (b+1);rw[cr]
           split<;>simp<;>omega
       have:=this (bl++[f.b]) (dF f);have:=I.lb
       have h2:(bl++[f.b]).length=bl.length+1:=by simp
       omega
     have wm:pH f bl rl=cr (dF f) (bl++[f.b]):=by unfold pH;rw[ok];rfl
     have prod:Ax (bW f (mkT rt ns) bv rv) (cr (dF f) (bl++[f.b])) G2.length:=by
       intro id N H J Dn h1 h2 h3 h4;have:=qQ (vb:=G2.length) (id:=id) (N:=N) (H:=H) I hz J Dn h1 h2 (by rw[wm];exact h3) h4;rw[wm]at this;exact this
     obtain⟨v,G3,s1,s2,s3,s4⟩:=zU (H:=G2++[.cells (bW f (mkT rt ns) bv rv)]) gl prod (by rw[List.getElem?_append_right (Nat.le_refl _),Nat.sub_self];rfl);obtain⟨s,tk,rfl,hs,htk⟩:=O1.shape s2
     have cu:=fun H=>toR (Jv hs gl htk (fun x hx=>by have:=bd x hx;omega) (mn:=mn) (by omega) (by omega) H)
     have pr:=fun G=>sZ (G:=G) (hO mn (cr (dF f) (bl++[f.b]))) 0
     have d2:G2[0]? =some (.cells (bW f (mkT rt ns) bv rv)):=by rw[f2 0 (List.getElem?_eq_some_iff.1 d0).1];exact d0
     have im:bW f (mkT rt ns) bv rv=[.int .i64 f.b,.int .i64 f.i,.int .i64 f.r,.int .i64 f.t,.int .u64 5,.int .u64 6,.int .i64 9,.int .i64 (9+f.i/4),.int .i64 (9+f.i/4+f.r/4),.int .i64 (dF f),.sl 7 (mkT rt ns).length (ah tvC (mkT rt ns)) .ro,bv,rv]:=rfl
     have ri:=fun H=>AL (.agg (bW f (mkT rt ns) bv rv)) _ rfl H (by rw[im];simp only[au,o4,u4,o1,o2,Bool.and_self]) rfl
     have pc:∀(f:FuncId) (q:Nat) (H:ab),pcx (cbL aW) 44 [.fn f [.ptr q 0]] H=none:=fun f q H=>aY rfl (bq (fi:=c44) rfl rfl)
     have l4:(cbL aW).cj 44=false:=rfl;have l5:(cbL aW).cj 12=false:=rfl;obtain⟨S,hS⟩:∃S,S=eK 2 rnA (hO mn (cr (dF f) (bl++[f.b]))):=⟨_,rfl⟩;rw[<-hS]at cu pr ⊢;generalize cr (dF f) (bl++[f.b])=W at*;generalize (hM W mn).1=A at*;generalize (hM W mn).2=B at*;clear hon li I fc hFL;rw[im]at so b1 hC cC0 cC1 d0 d2 ri s1 ⊢;generalize mkT rt ns=T at*;simp(disch:=omega)only[wk,ae,↓reduceIte,reduceEqDiff,reduceEq,reduceAdd,reduceCtorEq,so,o1,o2,c0,c1,<-hC,cC0,cC1,pb,aB l1,b1,c2,zG,aB l2,lf,c3,HM,aB l3,f1,c4,d2,Ld,aB l5,ri,pc,aB l4,s1,cu,aI,cw];exact pr _
theorem yH:∀(l:List Int) (e:Int),(cr e l).length<=l.length
 |[],e=>Nat.le_refl _
 | b::r,e=>by
   have:=yH r (b+1);rw[cr]
   split<;>simp<;>omega
def NA:aC:=(.seq (.seq (.region [qm 62 13,qm 63 7,qo 64 (.len 0 (.t 63)),qn 65 .lss (.t 62) (.t 64)]) (.cond (.t 65) .skip (.exit 0))) (.seq (.block 1 (.seq (.region [qo 14 (.mv (qi 0))]) (.block 2 (.loop (.seq (.seq (.region [qm 68 14,qm 69 7,qm 70 13,qo 71 (.ixa 2 (.t 69) (.t 70)),qf 72 1 71,ql 73 72,qn 74 .lss (.t 68) (.t 73)]) (.cond (.t 74) .skip (.exit 2))) (.seq (.block 3 (.seq (.block 4 (.loop (.seq (.seq (.drawn [qm 77 12,qm 78 9,qo 79 (.len 0 (.t 78)),qn 80 .lss (.t 77) (.t 79),qm 81 80,qg 82 (.mv (.t 9)) 81 true,qg 83 (.mv (.t 12)) 81 true,qg 84 (.ixa 1 (.t 82) (.t 83)) 81 true,qg 85 (.load 1 false (.t 84)) 81 true,qg 86 (.mv (.t 7)) 81 true,qg 87 (.mv (.t 13)) 81 true,qg 88 (.ixa 2 (.t 86) (.t 87)) 81 true,qg 89 (.fld 0 (.t 88)) 81 true,qg 90 (.load 1 false (.t 89)) 81 true,qg 91 (.mv (.t 14)) 81 true,qg 92 (.bin .add .num (.t 90) (.t 91)) 81 true] [qg 93 (.bin .lss .num (.t 85) (.t 92)) 81 true,qk 94 81 (.t 93) qz]) (.cond (.t 94) .skip (.exit 4))) (.block 5 (.region [qm 95 12,qn 96 .add (.t 95) (qi 1),qm 12 96]))))) (.seq (.seq (.drawn [qm 97 12,qm 98 9,qo 99 (.len 0 (.t 98)),qn 100 .geq (.t 97) (.t 99),qm 101 100,qg 102 (.mv (.t 9)) 101 false,qg 103 (.mv (.t 12)) 101 false,qg 104 (.ixa 1 (.t 102) (.t 103)) 101 false,qg 105 (.load 1 false (.t 104)) 101 false,qg 106 (.mv (.t 7)) 101 false,qg 107 (.mv (.t 13)) 101 false,qg 108 (.ixa 2 (.t 106) (.t 107)) 101 false,qg 109 (.fld 0 (.t 108)) 101 false,qg 110 (.load 1 false (.t 109)) 101 false,qg 111 (.mv (.t 14)) 101 false,qg 112 (.bin .add .num (.t 110) (.t 111)) 101 false] [qg 113 (.bin .neq .num (.t 105) (.t 112)) 101 false,qk 114 101 qt (.t 113)]) (.cond (.t 114) (.seq (.region [qo 4 (.mv qz)]) .ret) .skip)) (.region [qm 115 11,qn 116 .add (.t 115) (qi 1),qm 11 116])))) (.region [qm 75 14,qn 76 .add (.t 75) (qi 1),qm 14 76]))))))) (.region [qm 66 13,qn 67 .add (.t 66) (qi 1),qm 13 67])))
def eF:List Rn->Int
 |[]=>0
 |r::l=>r.m+eF l
theorem lN (l:List Rn) (r:Rn):eF (l++[r])=eF l+r.m:=by
 induction l with
 |nil=>simp[eF]
 |cons x l ih=>rw[List.cons_append,eF,eF,ih];omega
theorem Av:∀(l:List Rn),(∀r∈l,0<r.m/\r.m<=64)->0<=eF l/\eF l<=64*l.length
 |[],_=>by simp[eF]
 | r::l,h=>by
   have:=h r (List.mem_cons_self ..)
   have:=Av l fun x hx=>h x (List.mem_cons_of_mem _ hx)
   rw[eF,List.length_cons];omega
theorem DG {L:List Rn} {FL:List Int} {s s2:Nat} {tk tk2:Tk} {xb:Nat} {mn:Int} {Q:KP} {ks:List Kt} {E:Env} {H:ab} (hs:L≠[]->s=2) (hs2:FL≠[]->s2=1) (hpw:L.Pairwise fun r t=>r.a+r.m<=t.a)
   (hmem:∀r∈L,0<=r.a/\0<r.m/\r.a+r.m<=64/\∀k:Int,0<=k->k<r.m->r.a+k∈FL) (hsort:FL.Pairwise (· < ·)) (hFl:FL.length<=64) (hLl:L.length<=100)
   (E1:E 1= .int .i64 mn) (E5:E 5= .ptr xb 0) (E7:E 7= .sl s L.length (ah rnA L) tk) (E9:E 9= .sl s2 FL.length (ah bT FL) tk2) (E11:E 11= .int .i64 0) (E12:E 12= .int .i64 0) (E13:E 13= .int .i64 0)
   (fin:∀E':Env,E' 1= .int .i64 mn->E' 5= .ptr xb 0->E' 7= .sl s L.length (ah rnA L) tk->E' 9= .sl s2 FL.length (ah bT FL) tk2->E' 11= .int .i64 (eF L)->Ret (cbL aW) none 143 Q ks (.exit 0) E' [] H):
   Ret (cbL aW) none 143 Q (.code (.loop NA)::ks) .normal E [] H:=by
 have sb:∀l,(∀r∈l,r∈L)->0<=eF l/\eF l<=64*l.length:=fun l h=>Av l fun r hr=>by have:=hmem r (h r hr);omega
 refine ba (fun(x:(List Rn×List Rn)×(List Int×List Int)) E df G=>G=H/\df=[]/\L=x.1.1++x.1.2/\FL=x.2.1++x.2.2/\(∀p∈x.2.1,∀r∈x.1.2,p<r.a)/\E 1= .int .i64 mn/\E 5= .ptr xb 0/\E 7= .sl s L.length (ah rnA L) tk/\E 9= .sl s2 FL.length (ah bT FL) tk2/\E 11= .int .i64 (eF x.1.1)/\E 12= .int .i64 ((x.2.1.length:Nat):Int)/\E 13= .int .i64 ((x.1.1.length:Nat):Int))
   (fun x=>x.1.2.length) (([],L),([],FL)) (by decide) (.inl rfl) ⟨rfl,rfl,rfl,rfl,fun p hp=>by(cases hp),E1,E5,E7,E9,E11,E12,E13⟩ ?_
 clear E1 E5 E7 E9 E11 E12 E13;intro ⟨⟨preL,sufL⟩,⟨preF,sufF⟩⟩ E df G ih hP;obtain⟨rfl,rfl,aL,aF,hlt,E1,E5,E7,E9,E11,E12,E13⟩:=hP;dsimp only at aL aF hlt E11 E12 E13;unfold NA
 cases sufL with
 | nil=>
   have ep:preL=L:=by rw[aL];simp
   have n1:¬(preL.length:Int)<(L.length:Int):=by rw[ep];omega
   simp(disch:=omega)only[wk,ae,↓reduceIte,reduceEqDiff,reduceEq,reduceAdd,reduceCtorEq,E7,E13,n1];exact fin _ (by simp only[en,↓reduceIte,reduceEqDiff,E1]) (by simp only[en,↓reduceIte,reduceEqDiff,E5]) (by simp only[en,↓reduceIte,reduceEqDiff,E7]) (by simp only[en,↓reduceIte,reduceEqDiff,E9]) (by simp only[en,↓reduceIte,reduceEqDiff,E11,ep])
 | cons r sufL=>
   have la:L.length=preL.length+(sufL.length+1):=by rw[aL];simp
   have n1:(preL.length:Int)<(L.length:Int):=by omega
   obtain rfl:=hs (by rw[aL];simp);have dL:=Bk preL r sufL;rw[<-aL]at dL;obtain⟨b0,b1,b2,b3⟩:=hmem r (by rw[aL];simp)
   have sp:=sb preL fun x hx=>by rw[aL];exact List.mem_append.2 (.inl hx)
   have pw:=hpw;rw[aL,List.pairwise_append]at pw;obtain⟨pw1,pw2⟩:=List.pairwise_cons.1 pw.2.1;clear pw;simp(disch:=omega)only[wk,ae,↓reduceIte,reduceEqDiff,reduceEq,reduceAdd,reduceCtorEq,E7,E13,n1]
   refine ba (fun(y:Nat×(List Int×List Int)) E df G'=>G'=G/\df=[]/\(y.1:Int)<=r.m/\FL=y.2.1++y.2.2/\(∀p∈y.2.1,p<r.a+y.1)/\E 1= .int .i64 mn/\E 5= .ptr xb 0/\E 7= .sl 2 L.length (ah rnA L) tk/\E 9= .sl s2 FL.length (ah bT FL) tk2/\E 11= .int .i64 (eF preL+y.1)/\E 12= .int .i64 ((y.2.1.length:Nat):Int)/\E 13= .int .i64 ((preL.length:Nat):Int)/\E 14= .int .i64 (y.1:Int))
     (fun y=>r.m.toNat-y.1) (0,(preF,sufF)) (by decide) (.inl rfl) ⟨rfl,rfl,by simp only;omega,aF,fun p hp=>by have:=hlt p hp r (List.mem_cons_self ..);simp only;omega,by simp only[en,↓reduceIte,reduceEqDiff,E1],by simp only[en,↓reduceIte,reduceEqDiff,E5],by simp only[en,↓reduceIte,reduceEqDiff,E7],by simp only[en,↓reduceIte,reduceEqDiff,E9],by simp only[en,↓reduceIte,reduceEqDiff,E11];simp,by simp only[en,↓reduceIte,reduceEqDiff,E12],by simp only[en,↓reduceIte,reduceEqDiff,E13],by simp only[en,↓reduceIte,reduceEqDiff];rfl⟩ ?_
   clear E1 E5 E7 E9 E11 E12 E13 hlt aF;intro ⟨k,⟨preF,sufF⟩⟩ E df G' ihk hP;obtain⟨rfl,rfl,hk,aF,hlt,E1,E5,E7,E9,E11,E12,E13,E14⟩:=hP;dsimp only at hk aF hlt E11 E12 E14;by_cases hkm:(k:Int)<r.m
   . simp(disch:=omega)only[wk,ae,↓reduceIte,reduceEqDiff,reduceEq,reduceAdd,reduceCtorEq,E7,E13,E14,n1,dL,hkm];have yF:=b3 k (by omega) hkm;obtain⟨y,hy⟩:∃y,y=r.a+(k:Int):=⟨_,rfl⟩
     have wy:IntKind.i64.wrap (r.a+(k:Int))=y:=by rw[wrap_i64 (by omega) (by omega)];omega
     rw[<-hy]at yF hlt
     refine ba (fun(z:List Int×List Int) E df G''=>G''=G'/\df=[]/\FL=z.1++z.2/\(∀p∈z.1,p<y)/\E 1= .int .i64 mn/\E 5= .ptr xb 0/\E 7= .sl 2 L.length (ah rnA L) tk/\E 9= .sl s2 FL.length (ah bT FL) tk2/\E 11= .int .i64 (eF preL+k)/\E 12= .int .i64 ((z.1.length:Nat):Int)/\E 13= .int .i64 ((preL.length:Nat):Int)/\E 14= .int .i64 (k:Int))
       (fun z=>z.2.length) (preF,sufF) (by decide) (.inl rfl) ⟨rfl,rfl,aF,hlt,by simp only[en,↓reduceIte,reduceEqDiff,E1],by simp only[en,↓reduceIte,reduceEqDiff,E5],by simp only[en,↓reduceIte,reduceEqDiff,E7],by simp only[en,↓reduceIte,reduceEqDiff,E9],by simp only[en,↓reduceIte,reduceEqDiff,E11],by simp only[en,↓reduceIte,reduceEqDiff,E12],by simp only[en,↓reduceIte,reduceEqDiff,E13],by simp only[en,↓reduceIte,reduceEqDiff,E14]⟩ ?_
     clear E1 E5 E7 E9 E11 E12 E13 E14 hlt aF;intro ⟨preF,sufF⟩ E df G'' ihz hP;obtain⟨rfl,rfl,aF,hlt,E1,E5,E7,E9,E11,E12,E13,E14⟩:=hP;dsimp only at aF hlt E12
     have yS:y∈sufF:=by
       rw[aF]at yF
       rcases List.mem_append.1 yF with h|h
       . have:=hlt y h;omega
       . exact h
     cases sufF with
     |nil=>cases yS
     | cons z sufF=>
       have lF:FL.length=preF.length+(sufF.length+1):=by rw[aF];simp
       have m1:(preF.length:Int)<(FL.length:Int):=by omega
       have m2:¬(FL.length:Int)<=(preF.length:Int):=by omega
       obtain rfl:=hs2 (by rw[aF];simp);have dF:=p7 preF z sufF;rw[<-aF]at dF;by_cases hz:z<y
       . simp(disch:=omega)only[wk,ae,↓reduceIte,reduceEqDiff,reduceEq,reduceAdd,reduceCtorEq,E7,E9,E12,E13,E14,n1,m1,dL,dF,wy,hz,aI,cw]
         exact ihz (preF++[z],sufF) _ _ _ (by simp) ⟨rfl,rfl,by simp[aF],fun p hp=>(by
           rcases List.mem_append.1 hp with h|h
           . exact hlt p h
           . rw[List.mem_singleton.1 h];exact hz),by simp only[en,↓reduceIte,reduceEqDiff,E1],by simp only[en,↓reduceIte,reduceEqDiff,E5],by simp only[en,↓reduceIte,reduceEqDiff,E7],by simp only[en,↓reduceIte,reduceEqDiff,E9],by simp only[en,↓reduceIte,reduceEqDiff,E11],by simp only[en,↓reduceIte,reduceEqDiff],by simp only[en,↓reduceIte,reduceEqDiff,E13],by simp only[en,↓reduceIte,reduceEqDiff,E14]⟩
       . have hzy:z=y:=by
           rcases List.mem_cons.1 yS with h|h
           . exact h.symm
           . have st:=hsort;rw[aF,List.pairwise_append]at st;have:=(List.pairwise_cons.1 st.2.1).1 y h;omega
         subst hzy
         have w1:IntKind.i64.wrap (eF preL+(k:Int)+1)=eF preL+((k+1:Nat):Int):=by rw[wrap_i64 (by omega) (by omega)];omega
         simp(disch:=omega)only[wk,ae,↓reduceIte,reduceEqDiff,reduceEq,reduceAdd,reduceCtorEq,E7,E9,E11,E12,E13,E14,n1,m1,m2,dL,dF,wy,hz,w1,aI,cw];exact ihk (k+1,(preF,z::sufF)) _ _ _ (by simp only;omega) ⟨rfl,rfl,by simp only;omega,aF,fun p hp=>by have:=hlt p hp;simp only;omega,by simp only[en,↓reduceIte,reduceEqDiff,E1],by simp only[en,↓reduceIte,reduceEqDiff,E5],by simp only[en,↓reduceIte,reduceEqDiff,E7],by simp only[en,↓reduceIte,reduceEqDiff,E9],by simp only[en,↓reduceIte,reduceEqDiff],by simp only[en,↓reduceIte,reduceEqDiff,E12],by simp only[en,↓reduceIte,reduceEqDiff,E13],by simp only[en,↓reduceIte,reduceEqDiff]⟩
   . have ek:(k:Int)=r.m:=by omega
     simp(disch:=omega)only[wk,ae,↓reduceIte,reduceEqDiff,reduceEq,reduceAdd,reduceCtorEq,E7,E13,E14,n1,dL,hkm];exact ih ((preL++[r],sufL),(preF,sufF)) _ _ _ (by simp) ⟨rfl,rfl,by simp[aL],aF,fun p hp t ht=>by have:=hlt p hp;have:=pw1 t ht;omega,by simp only[en,↓reduceIte,reduceEqDiff,E1],by simp only[en,↓reduceIte,reduceEqDiff,E5],by simp only[en,↓reduceIte,reduceEqDiff,E7],by simp only[en,↓reduceIte,reduceEqDiff,E9],by simp only[en,↓reduceIte,reduceEqDiff,E11,lN,ek],by simp only[en,↓reduceIte,reduceEqDiff,E12],by simp only[en,↓reduceIte,reduceEqDiff]⟩
theorem xa (P:Int->Bool):∀(k:Nat) (a x:Int),a<=x->x<a+k->P x=true->x∈cT P a k
 |0,a,x,h1,h2,_=>by omega
 | k+1,a,x,h1,h2,h3=>by
   rw[cT];by_cases e:x=a
   . subst e;rw[if_pos h3];exact List.mem_cons_self ..
   . have:=xa P k (a+1) x (by omega) (by omega) h3;split
     . exact List.mem_cons_of_mem _ this
     . exact this
theorem nR (P:Int->Bool):∀(k:Nat) (a:Int),(cT P a k).Pairwise (· < ·)
 |0,a=>List.Pairwise.nil
 | k+1,a=>by
   rw[cT];split
   . refine List.pairwise_cons.2 ⟨fun x hx=> ?_,nR P k (a+1)⟩;have:=uN (P:=P) k (a+1) x hx;omega
   . exact nR P k (a+1)
theorem uF:∀(l:List Int) (e:Int),l.Pairwise (· < ·)->(∀x∈l,e<=x)->∀r∈cr e l,e<=r.a/\∀y,r.a<=y->y<r.a+r.m->y∉l
 |[],e,_,_,r,hr=>by cases hr
 | b::l,e,hs,he,r,hr=>by
   obtain⟨s1,s2⟩:=List.pairwise_cons.1 hs;have hb:=he b (List.mem_cons_self ..)
   have ih:=uF l (b+1) s2 fun x hx=>by have:=s1 x hx;omega
   have key:r∈cr (b+1) l->e<=r.a/\∀y,r.a<=y->y<r.a+r.m->y∉b::l:=fun h=>by
     obtain⟨i1,i2⟩:=ih r h;refine⟨by omega,fun y h1 h2 hm=> ?_⟩
     rcases List.mem_cons.1 hm with h3|h3
     . omega
     . exact i2 y h1 h2 h3
   rw[cr]at hr;split at hr
   . rcases List.mem_cons.1 hr with h|h
     . subst h;refine⟨Int.le_refl _,fun y h1 h2 hm=> ?_⟩;simp only at h1 h2
       rcases List.mem_cons.1 hm with h3|h3
       . omega
       . have:=s1 y h3;omega
     . exact key h
   . exact key hr
theorem AF:∀(l:List Int) (e:Int),l.Pairwise (· < ·)->(∀x∈l,e<=x)->(cr e l).Pairwise fun r t=>r.a+r.m<=t.a
 |[],e,_,_=>List.Pairwise.nil
 | b::l,e,hs,he=>by
   obtain⟨s1,s2⟩:=List.pairwise_cons.1 hs
   have hl:∀x∈l,b+1<=x:=fun x hx=>by have:=s1 x hx;omega
   have ih:=AF l (b+1) s2 hl;rw[cr];split
   . refine List.pairwise_cons.2 ⟨fun t ht=> ?_,ih⟩;have:=(uF l (b+1) s2 hl t ht).1;simp only;omega
   . exact ih
theorem CT (out:List Rn) (b:Int):eF (kB out b)=eF out+1:=by
 rcases List.eq_nil_or_concat out with rfl|⟨pre,x,rfl⟩
 . rfl
 . unfold kB
   have e:(pre++[x]).getLast? =some x:=by simp
   simp only[List.concat_eq_append,e];split
   . rw[List.dropLast_concat,lN,lN];simp only;omega
   . rw[lN]
theorem ta:∀(l:List Int) (out:List Rn),eF (l.foldl kB out)=eF out+l.length
 |[],out=>by simp
 | b::l,out=>by
   rw[List.foldl_cons,ta l,CT,List.length_cons];omega
theorem Mv:∀(L:List Rn),hO 0 L=[]
 |[]=>rfl
 |r::l=>by rw[hO,if_pos rfl]
theorem yB:∀(L:List Rn) (q:Int),0<=q->q<=eF L->eF (hO q L)=q
 |[],q,h0,h1=>by rw[eF]at h1;rw[hO,eF];omega
 | r::l,q,h0,h1=>by
   rw[eF]at h1;rw[hO];by_cases hq:q=0
   . rw[if_pos hq,hq];rfl
   . rw[if_neg hq,eF];by_cases hx:q<r.m
     . rw[if_pos hx,show q-q=0 by omega,Mv];simp[eF]
     . rw[if_neg hx,yB l (q-r.m) (by omega) (by omega)];simp only;omega
theorem uv:∀(L:List Rn) (q:Int),0<=q->(∀r∈L,0<r.m)->∀t∈hO q L,∃r∈L,t.a=r.a/\0<t.m/\t.m<=r.m
 |[],q,_,_,t,ht=>by cases ht
 | r::l,q,h0,h,t,ht=>by
   have hr:=h r (List.mem_cons_self ..);rw[hO]at ht;split at ht
   . cases ht
   . rename_i hq
     rcases List.mem_cons.1 ht with e|ht
     . subst e;refine⟨r,List.mem_cons_self ..,rfl, ?_⟩;simp only
       split<;>omega
     . obtain⟨r',h1,h2⟩:=uv l _ (by split<;>omega) (fun x hx=>h x (List.mem_cons_of_mem _ hx)) t ht;exact⟨r',List.mem_cons_of_mem _ h1,h2⟩
theorem Ai:∀(L:List Rn) (q:Int),0<=q->(∀r∈L,0<r.m)->(L.Pairwise fun r t=>r.a+r.m<=t.a)->(hO q L).Pairwise fun r t=>r.a+r.m<=t.a
 |[],q,_,_,_=>List.Pairwise.nil
 | r::l,q,h0,h,hp=>by
   obtain⟨p1,p2⟩:=List.pairwise_cons.1 hp
   have hl:∀x∈l,0<x.m:=fun x hx=>h x (List.mem_cons_of_mem _ hx)
   rw[hO];split
   . exact List.Pairwise.nil
   . refine List.pairwise_cons.2 ⟨fun t ht=> ?_,Ai l _ (by split<;>omega) hl p2⟩;obtain⟨r',h1,h2,h3,h4⟩:=uv l _ (by split<;>omega) hl t ht;have:=p1 r' h1;simp only
     split<;>omega
theorem wI:∀(L:List Rn) (q:Int),(hO q L).length<=L.length
 |[],q=>Nat.le_refl _
 | x::r,q=>by
   rw[hO];split
   . simp
   . have:=wI r (q-if q<x.m then q else x.m);simp;omega
theorem JQ (W:List Rn) (mn:Int):(∃x∈W,mn<=x.m/\hM W mn=(x.a,0))∨((∀x∈W,x.m<mn)/\hM W mn=(0,5)):=by
 unfold hM
 cases h:W.find? (fun x=>decide (mn<=x.m))with
 |some x=>exact .inl ⟨x,List.mem_of_find?_eq_some h,by have:=List.find?_some h;simpa using this,rfl⟩
 |none=>exact .inr ⟨fun x hx=>by have:=List.find?_eq_none.1 h x hx;simp at this;omega,rfl⟩
def mxM:Int->List Rn->Int
 |a,[]=>a
 |a,r::l=>mxM (if a<r.m then r.m else a) l
theorem Br (r:Rn):∀(l:List Rn) (a:Int),mxM a (l++[r])=if mxM a l<r.m then r.m else mxM a l
 |[],a=>rfl
 |x::l,a=>by rw[List.cons_append,mxM,mxM,Br r l]
theorem DX {mn:Int}:∀(l:List Rn) (a:Int),a<mn->(∀r∈l,r.m<mn)->mxM a l<mn
 |[],a,h,_=>h
 | x::l,a,h,hl=>by
   have:=hl x (List.mem_cons_self ..);rw[mxM]
   exact DX l _ (by split<;>omega) fun r hr=>hl r (List.mem_cons_of_mem _ hr)
theorem CY {f:Frm} {bl:List Int} (hd:0<=dF f) (hdb:dF f<=f.b) (h64:f.b<=64) (hs:bl.Pairwise (· < ·)) (hr:∀x∈bl,dF f<=x/\x<f.b) (lb:bl.length<=80) (mn:Int):
   ((dp f bl mn).2=2∨(dp f bl mn).2=221/\((fE f bl).length:Int)<mn)∨
   ((dp f bl mn).2=0/\eF (dp f bl mn).1=mn/\((dp f bl mn).1.Pairwise fun r t=>r.a+r.m<=t.a)/\(∀r∈(dp f bl mn).1,0<=r.a/\0<r.m/\r.a+r.m<=64/\∀k:Int,0<=k->k<r.m->r.a+k∈fE f bl)∧
     (dp f bl mn).1.length<=100/\((dp f bl mn).1.length<2∨mxM 0 (cr (dF f) (bl++[f.b]))<mn)):=by
 obtain⟨m,hm⟩:=Int.eq_ofNat_of_zero_le (show 0<=f.b by omega);have gp:=Bw hm hd hdb hs hr
 have bd:∀x∈cr (dF f) (bl++[f.b]),0<=x.a/\0<x.m/\x.a+x.m<=(m:Int):=by
   rw[<-gp];exact mL m _ 0 (by omega) (by omega) (gx (pB f bl) m m 0 ⟨0,0⟩ (by omega) (.inl rfl))
 have s2:(bl++[f.b]).Pairwise (· < ·):=List.pairwise_append.2 ⟨hs,List.pairwise_singleton ..,fun x hx y hy=>by rw[List.mem_singleton.1 hy];exact(hr x hx).2⟩
 have e2:∀x∈bl++[f.b],dF f<=x:=fun x hx=>by
   rcases List.mem_append.1 hx with h|h
   . exact(hr x h).1
   . rw[List.mem_singleton.1 h];exact hdb
 have gi:=uF _ _ s2 e2;have gw:=AF _ _ s2 e2;have gl:=yH (bl++[f.b]) (dF f);rw[List.length_append,List.length_singleton]at gl;have e0:=sd bl [] (dF f) (f.b-dF f).toNat hs (fun x hx=>by have:=hr x hx;omega) (fun x hx=>by cases hx);rw[show dF f+((f.b-dF f).toNat:Nat)=f.b by omega,List.nil_append,<-Ej bl hd]at e0;have su:=ta (fE f bl) [];rw[e0,eF,Int.zero_add]at su
 have mem:∀r∈cr (dF f) (bl++[f.b]),∀k:Int,0<=k->k<r.m->r.a+k∈fE f bl:=fun r hrm k h0 h1=>by
   obtain⟨i1,i2⟩:=gi r hrm;have b:=bd r hrm;have ni:=i2 (r.a+k) (by omega) (by omega);refine xa _ _ _ _ (by omega) (by omega) ?_;unfold pB;rw[decide_eq_false (by omega),decide_eq_false fun h=>ni (List.mem_append.2 (.inl (by rw[show((r.a+k).toNat:Int)=r.a+k by omega]at h;exact h)))];rfl
 have pk:dp f bl mn=(if mn<0∨2048<mn then([],2)else if mn=0 then([],0)else if((fE f bl).length:Int)<mn then([],221)else if(hM (cr (dF f) (bl++[f.b])) mn).2=0 then([⟨(hM (cr (dF f) (bl++[f.b])) mn).1,mn⟩],0)else(hO mn (cr (dF f) (bl++[f.b])),0)):=rfl;rw[pk];clear pk e0 gp;generalize cr (dF f) (bl++[f.b])=W at*;generalize fE f bl=FL at*;by_cases c0:mn<0∨2048<mn
 . rw[if_pos c0];exact .inl (.inl rfl)
 rw[if_neg c0];by_cases c1:mn=0
 . rw[if_pos c1];exact .inr ⟨rfl,c1.symm,List.Pairwise.nil,fun r hr=>(by cases hr),by simp,.inl (by simp)⟩
 rw[if_neg c1];by_cases c2:(FL.length:Int)<mn
 . rw[if_pos c2];exact .inl (.inr ⟨rfl,c2⟩)
 rw[if_neg c2]
 rcases JQ W mn with⟨x,hx,h1,h2⟩|⟨h1,h2⟩
 . rw[h2];simp only[if_true];refine .inr ⟨trivial,by simp[eF],List.pairwise_singleton ..,fun r hr=> ?_,by simp,.inl (by simp)⟩;rw[List.mem_singleton.1 hr];have b:=bd x hx;exact⟨b.1,by simp only;omega,by simp only;omega,fun k k0 k1=>mem x hx k k0 (by simp only at k1;omega)⟩
 . rw[h2]
   have c5:¬(5:Int)=0:=by decide
   simp only[c5,if_false];refine .inr ⟨trivial,yB W mn (by omega) (by omega),Ai W mn (by omega) (fun r hr=>(bd r hr).2.1) gw,fun r hr=> ?_, ?_,.inr (DX W 0 (by omega) h1)⟩
   . obtain⟨r',q1,q2,q3,q4⟩:=uv W mn (by omega) (fun r hr=>(bd r hr).2.1) r hr;have b:=bd r' q1;exact⟨by omega,q3,by omega,fun k k0 k1=>by rw[q2];exact mem r' q1 k k0 (by omega)⟩
   . have:=wI W mn;omega
def pf:aC:=(.region [qo 17 (.alloc [(.int .i64 0),(.int .i64 0)]),qe (.store 2 (.t 17) (.t 122))])
def o9:aC:=(.block 7 (.region [ql 123 16,qf 124 1 17,ql 125 124,qo 126 (.mm true (.t 123) (.t 125)),qs 16 (.t 126)]))
theorem GR {tm:List AV} {E:Env} (ha:Ag 143 tm E) (E16:E 16= .ptr 3 0) {W pre post:List Rn} {x:Rn} {H0 G:ab} (h5:H0[5]? =some (.loop 0 .normal tm [122] pf o9)) (hS:W=pre++x::post) (hJ:(∀i,i<6->i≠3->G[i]? =H0[i]?)/\G[3]? =some (.cells [.int .i64 (mxM 0 pre)])) (hl:6<=G.length):
   ∃c G',(cbL aW).yl 5 [.agg (rnA x)] G=some (.ret (.bool c),G')/\6<=G'.length/\if c=true then((∀i,i<6->i≠3->G'[i]? =H0[i]?)/\G'[3]? =some (.cells [.int .i64 (mxM 0 (pre++[x]))]))else False:=by
 obtain⟨j1,j2⟩:=hJ
 obtain⟨P,hP⟩:∃P:Bool->ab->Prop,P=fun c G'=>6<=G'.length/\if c=true then((∀i,i<6->i≠3->G'[i]? =H0[i]?)/\G'[3]? =some (.cells [.int .i64 (mxM 0 (pre++[x]))]))else False:=⟨_,rfl⟩
 have lo:=(j1 5 (by decide) (by decide)).trans h5;have key:=tX (tab:=aW) (id:=5) (P:=P) (args:=[.agg (rnA x)]) (H:=G) (aO lo) ha rfl (by decide) (by decide) (by decide) (by decide) (by decide) ?_
 . rw[hP]at key;exact key
 have ex:rnA x=[.int .i64 x.a,.int .i64 x.m]:=rfl
 have g0:∀L:List aj,(G++L)[G.length]? =L[0]? :=fun L=>by rw[List.getElem?_append_right (Nat.le_refl _),Nat.sub_self]
 have t0:∀(L:List aj) (o:aj),(G++L).set G.length o=G++L.set 0 o:=fun L o=>by rw[List.set_append_right _ _ (Nat.le_refl _),Nat.sub_self]
 have gk:∀i,i<G.length->∀L:List aj,(G++L)[i]? =G[i]? :=fun i hi L=>List.getElem?_append_left hi
 unfold pf;rw[ex];simp(disch:=omega)only[wk,ae,↓reduceIte,reduceEqDiff,reduceEq,reduceAdd,reduceCtorEq,fN,gL,g0,t0];refine⟨rfl,rfl,_,_,_,_,_,aO (by rw[gk _ (by omega)];exact lo), ?_⟩;obtain⟨G1,hG1⟩:∃G1,G1=(G++[aj.cells [.int .i64 x.a,.int .i64 x.m]]).set 5 (.loop 1 .normal tm [122] pf o9):=⟨_,rfl⟩;rw[<-hG1]
 have l1:G1.length=G.length+1:=by rw[hG1];simp
 have k1:∀i,i<G.length->i≠5->G1[i]? =G[i]? :=fun i h1 h2=>by rw[hG1,List.getElem?_set_ne (Ne.symm h2),gk _ h1]
 have c1:G1[G.length]? =some (.cells [.int .i64 x.a,.int .i64 x.m]):=by rw[hG1,List.getElem?_set_ne (by omega),g0];rfl
 have lo1:G1[5]? =some (.loop 1 .normal tm [122] pf o9):=by rw[hG1,List.getElem?_set_self (by simp;omega)]
 have m1:=(k1 _ (by omega) (by omega)).trans j2
 have fin:∀v:Int,v=mxM 0 (pre++[x])->P true ((G1.set 3 (.cells [.int .i64 v])).set 5 (.loop 0 .normal tm [122] pf o9)):=fun v hv=>by
   rw[hP];refine⟨by simp;omega, ?_⟩;rw[if_pos rfl];refine⟨fun i hi hn=> ?_, ?_⟩
   . by_cases e:i=5
     . subst e;rw[List.getElem?_set_self (by simp;omega),h5]
     . rw[List.getElem?_set_ne (by omega),List.getElem?_set_ne (by omega),k1 i (by omega) e,j1 i hi hn]
   . rw[List.getElem?_set_ne (by omega),List.getElem?_set_self (by omega),hv]
 have mx:=Br x pre 0;unfold o9;by_cases hx:mxM 0 pre<x.m
 . rw[if_pos hx]at mx;simp(disch:=omega)only[wk,ae,↓reduceIte,reduceEqDiff,reduceEq,reduceAdd,reduceCtorEq,E16,m1,c1,hx];refine⟨rfl,1,.normal,tm,[122],pf,o9,aO (by rw[List.getElem?_set_ne (by omega)];exact lo1), ?_⟩;exact fin _ mx.symm
 . rw[if_neg hx]at mx;simp(disch:=omega)only[wk,ae,↓reduceIte,reduceEqDiff,reduceEq,reduceAdd,reduceCtorEq,E16,m1,c1,hx];refine⟨rfl,1,.normal,tm,[122],pf,o9,aO (by rw[List.getElem?_set_ne (by omega)];exact lo1), ?_⟩;exact fin _ mx.symm
theorem rP {f:Frm} {bl rl fl:List Int} {bv rv fv:AV} (hb:eo bl bv) (hr:eo rl rv) (hfl:eo fl fv) (hz:NzR bl bv) (many:Int):(cbL aW).pc 5 [lI f bv rv fv,.int .i64 many]=some (.plain (.bool true)):=by
 have lu:aE (lI f bv rv fv)=lI f bv rv fv:=by
   show AV.agg [_,_,_,_,aA bv,aA rv,aA fv]=_
   rw[hb.un,hr.un,hfl.un];rfl
 obtain⟨r,m1,m2,m3⟩:=KG hb hr hfl (f:=f)
 have mp:=fun H=>aU (H:=H) (show(cbL aW).cj 8=false from rfl) (O7 m1)
 have ob:=hb.one;have orr:=hr.one;have of:=hfl.one;refine bu (fi:=c5) rfl ?_ (by simp[c5]) (by decide) ?_
 . simp only[bV,List.map_cons,List.map_nil,lu,aD,c5];simp only[lI,hfL,AV.hf,hb.hf,hr.hf,hfl.hf,Bool.and_self]
 unfold c5;rw[List.map_cons,List.map_cons,List.map_nil,lu,aD];by_cases hu:okU f bl rl fl
 case neg=>
   rw[m2 hu]at mp;clear m2 m3;unfold lI z13 at*;simp(disch:=omega)only[wk,ae,↓reduceIte,reduceEqDiff,reduceEq,reduceAdd,reduceCtorEq,mp,ob,orr,of,fF,aI,aJ,aP,aE,aA,AV.hf,hfL]
 obtain⟨rt,ns,h1,h2,h3⟩:=m3 hu;have I:=N5 hb hr hu h1 h2;rw[h3]at mp
 have sp:=fun H=>Hl I hz many H
 obtain⟨w,w1,sf⟩:=Ic I;have im:bW f (mkT rt ns) bv rv=[.int .i64 f.b,.int .i64 f.i,.int .i64 f.r,.int .i64 f.t,.int .u64 5,.int .u64 6,.int .i64 9,.int .i64 (9+f.i/4),.int .i64 (9+f.i/4+f.r/4),.int .i64 (dF f),.sl 7 (mkT rt ns).length (ah tvC (mkT rt ns)) .ro,bv,rv]:=rfl
 cases ok:okI f bl rl with
 | false=>
   rw[ok]at sp sf w1;simp only[Bool.false_eq_true,if_false]at sp sf w1;have sp:∀H,pcx (cbL aW) 13 [.agg (bW f (mkT rt ns) bv rv),.int .i64 many] H=some (.plain (.tup [.sl 0 0 [] .z,.int .i64 2])):=sp;obtain⟨s2,tk2,rfl,hs2,ht2⟩:=w1;rw[im]at mp sp sf;clear m2 m3 I h1 h2 h3;generalize mkT rt ns=T at*;unfold lI at*;simp(disch:=omega)only[wk,ae,↓reduceIte,reduceEqDiff,reduceEq,reduceAdd,reduceCtorEq,mp,ob,orr,of,sp,sf,oT,fF,aI,cw,aJ,aP,aE,aA,AV.hf,hfL]
 | true=>
   rw[ok]at sp sf w1;simp only[if_true]at sp sf w1;have hf:=I.fo;unfold okF at hf;have b64:=I.b64;have rm:=jA ((Bool.and_eq_true _ _).mp (show(iN (9+f.i/4+f.r/4+1) f.b none bl&&iN 1 (f.r+1) none rl)=true from ok)).1
   have hrr:∀x∈bl,dF f<=x/\x<f.b:=fun x hx=>by have:=rm.1 x hx;unfold dF;omega
   have pt:=CY (by unfold dF;omega) (by unfold dF;omega) b64 rm.2 hrr I.lb many;have fso:(fE f bl).Pairwise (· < ·):=nR _ _ _
   have fln:(fE f bl).length<=64:=by have:=o5 (fun b=> !pB f bl b.toNat) (f.b-dF f).toNat (dF f);unfold fE;unfold dF at*;omega
   have wm:pH f bl rl=cr (dF f) (bl++[f.b]):=by unfold pH;rw[ok];rfl
   have prod:Ax (bW f (mkT rt ns) bv rv) (cr (dF f) (bl++[f.b])) 2:=by
     intro id N H J Dn h1 h2 h3 h4;have:=qQ (vb:=2) (id:=id) (N:=N) (H:=H) I hz J Dn h1 h2 (by rw[wm];exact h3) h4;rw[wm]at this;exact this
   obtain⟨s,tk,es,hs,htk⟩:=iP 2 rnA (dp f bl many).1;rw[es]at sp;obtain⟨s2,tk2,rfl,hs2,ht2⟩:=w1
   have ri:=fun H=>AL (.agg (bW f (mkT rt ns) bv rv)) _ rfl H (by rw[im];simp only[au,o4,u4,ob,orr,Bool.and_self]) rfl
   have lR:(cbL aW).cj 12=false:=rfl;rw[im]at mp sp sf ri prod;clear m2 m3 I h1 h2 h3 wm;generalize cr (dF f) (bl++[f.b])=W at*;generalize (dp f bl many).1=L at*;generalize (dp f bl many).2=e at*;generalize fE f bl=FL at*;generalize mkT rt ns=T at*;unfold lI at*
   rcases pt with(rfl|⟨rfl,p1⟩)|⟨rfl,p1,p2,p3,p4,p5⟩
   . simp(disch:=omega)only[wk,ae,↓reduceIte,reduceEqDiff,reduceEq,reduceAdd,reduceCtorEq,mp,ob,orr,of,sp,sf,oT,fF,aI,cw,aJ,aP,aE,aA,AV.hf,hfL]
   . simp(disch:=omega)only[wk,ae,↓reduceIte,reduceEqDiff,reduceEq,reduceAdd,reduceCtorEq,mp,ob,orr,of,sp,sf,p1,oT,fF,aI,cw,aJ,aP,aE,aA,AV.hf,hfL]
   simp(disch:=omega)only[wk,ae,↓reduceIte,reduceEqDiff,reduceEq,reduceAdd,reduceCtorEq,mp,ob,orr,of,sp,sf,oT,fF,aI,cw];refine DG (xb:=1) (mn:=many) (tk:=tk) (tk2:=tk2) hs hs2 p2 p3 fso fln p4 (by simp only[en,↓reduceIte,reduceEqDiff]) (by simp only[en,↓reduceIte,reduceEqDiff]) (by simp only[en,↓reduceIte,reduceEqDiff]) (by simp only[en,↓reduceIte,reduceEqDiff]) (by simp only[en,↓reduceIte,reduceEqDiff]) (by simp only[en,↓reduceIte,reduceEqDiff]) (by simp only[en,↓reduceIte,reduceEqDiff]) (fun E' E1 E5 E7 E9 E11=> ?_);rw[p1]at E11;simp(disch:=omega)only[wk,ae,↓reduceIte,reduceEqDiff,reduceEq,reduceAdd,reduceCtorEq,E5,ob,orr,Ld,aB lR,ri,Mh];refine gJ («as» :=pf) (bd:=o9) (f:=37) (caps:=[.ptr 2 0]) (by simp only[en,↓reduceIte,reduceEqDiff,oz]) (fun tm ha=> ?_);generalize hH0:([_,_,_,_]++[aj.cO,.loop 0 .normal tm [122] pf o9]:ab)=H0
   obtain⟨H2,hic,hJD⟩:=prod (id:=5) (N:=6) (H:=H0) (fun pre G=>(∀i,i<6->i≠3->G[i]? =H0[i]?)/\G[3]? =some (.cells [.int .i64 (mxM 0 pre)])) (fun _=>False) (by rw[<-hH0];exact Nat.le_refl _) (by rw[<-hH0];rfl) (fun pre x post G hS hJ hl=>GR ha (by simp only[en,↓reduceIte,reduceEqDiff]) (by rw[<-hH0];rfl) hS hJ hl)
     (fun A=>⟨fun i hi _=>List.getElem?_append_left (by rw[<-hH0];exact hi),by rw[<-hH0];rfl⟩)
   obtain⟨j1,j2⟩:=hJD.resolve_right id
   have lo:H2[5]? =some (.loop 0 .normal tm [122] pf o9):=by rw[j1 5 (by decide) (by decide),<-hH0];rfl
   refine⟨_,H2,0,.normal,tm,[122],pf,o9,hic,aO lo,by decide,rfl, ?_⟩
   have d2:∀o:aj,(H2.set 5 o)[4]? =some .cO:=fun o=>by rw[List.getElem?_set_ne (by decide),j1 4 (by decide) (by decide),<-hH0];rfl
   have m2:∀o:aj,(H2.set 5 o)[3]? =some (.cells [.int .i64 (mxM 0 W)]):=fun o=>by rw[List.getElem?_set_ne (by decide)];exact j2
   by_cases c1:(L.length:Int)<2
   . simp(disch:=omega)only[wk,ae,↓reduceIte,reduceEqDiff,reduceEq,reduceAdd,reduceCtorEq,E1,E7,E11,m2,c1,fF,aI,cw];rw[eL (d2 _)];simp(disch:=omega)only[wk,ae,↓reduceIte,reduceEqDiff,reduceEq,reduceAdd,reduceCtorEq,aJ,aP,aE,aA,AV.hf,hfL]
   . have c2:mxM 0 W<many:=p5.resolve_left (by omega);simp(disch:=omega)only[wk,ae,↓reduceIte,reduceEqDiff,reduceEq,reduceAdd,reduceCtorEq,E1,E7,E11,m2,c1,c2,fF,aI,cw];rw[eL (d2 _)];simp(disch:=omega)only[wk,ae,↓reduceIte,reduceEqDiff,reduceEq,reduceAdd,reduceCtorEq,aJ,aP,aE,aA,AV.hf,hfL]
theorem vK {x:List AV} {v:AV} (o:OkL [.int .i64,.int .i64,.int .i64,.int .i64,.slice [.int .i64],.slice [.int .i64],.slice [.int .i64]] x) (o1:OkS (.int .i64) v):(cbL aW).pc 5 [.agg x,v]=some (.plain (.bool true)):=by
 obtain⟨f,bl,rl,fl,bv,rv,fv,e,hb,hr,hf,hz⟩:=J3 o;obtain⟨n,rfl⟩:=se o1;rw[e];exact rP hb hr hf hz n
end Go.Proofs.YtephfpdnhdpmkaaGreatDoor
