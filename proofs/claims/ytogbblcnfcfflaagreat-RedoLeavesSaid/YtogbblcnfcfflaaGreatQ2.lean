/- TEXTS OF THE WALKS, put together: BD2 LF LG CB1. No condition but those stated. -/
import Derived.Test.YtogbblcnfcfflaaGreatQ1
import Derived.Test.YtogbblcnfcfflaaGreatIFuns
import Derived.Test.YtogbblcnfcfflaaGreatAmSet
import Derived.Test.YtogbblcnfcfflaaGreatAmTop
import Derived.Test.YtogbblcnfcfflaaGreatAmLim
import Derived.Test.YtogbblcnfcfflaaGreatP1
open Int (reduceEq)
open Nat (reduceEqDiff reduceAdd reduceMul reduceLT reduceLeDiff)
set_option linter.all false
set_option maxHeartbeats 8000000
set_option maxRecDepth 1000000
namespace Go.Proofs.YtogbblcnfcfflaaGreat
open Go Go.Am Go.Slots Go.Nod Go.Rec
open Go.Ino (i64A)
def U6 (x:Int):Prop:=0<=x/\x<18446744073709551616
structure NdT (n:Nd):Prop where
 v:0<=n.v/\n.v<=12
 s:0<=n.s/\n.s<=2047
 l:U6 n.l
 f:U6 n.f
 y:0<=n.y/\n.y<=2
 ps:∀p∈n.ps,U6 p.1/\U6 p.2
 len:n.ps.length<=27
def LevC:List Nd->List AV->Prop
 |[],C=>C=[]
 |n::r,C=>∃w D,C=n.cells w++D/\unown w=slvR 2 pairA n.ps/\LevC r D
theorem LevC.len:∀{l:List Nd} {C:List AV},LevC l C->C.length=l.length*6
 |[],C,h=>by rw[show C=[] from h];rfl
 |n::r,C,⟨w,D,h1,_,h3⟩=>by rw[h1,List.length_append,LevC.len h3,List.length_cons];show 6+_=_;omega
theorem LevC.app:∀{A B:List Nd} {C D:List AV},LevC A C->LevC B D->LevC (A++B) (C++D)
 |[],B,C,D,h,k=>by rw[show C=[] from h];exact k
 |n::r,B,C,D,⟨w,F,h1,h2,h3⟩,k=>⟨w,F++D,by rw[h1,List.append_assoc],h2,LevC.app h3 k⟩
theorem LevC.cut:∀{A:List Nd} {B:List Nd} {C:List AV},LevC (A++B) C->∃C1 C2,C=C1++C2/\LevC A C1/\LevC B C2
 |[],B,C,h=>⟨[],C,rfl,rfl,h⟩
 | n::r,B,C,⟨w,D,h1,h2,h3⟩=>by
   obtain⟨C1,C2,e,k1,k2⟩:=LevC.cut h3
   exact⟨n.cells w++C1,C2,by rw[h1,e,List.append_assoc],⟨w,C1,rfl,h2,k1⟩,k2⟩
theorem one_unown {w:AV} {l:List (Int×Int)} (h:unown w=slvR 2 pairA l):w.one=true:=by
 cases w with
 |sl s n cs tk=>rfl
 |_=>exact absurd h (by unfold slvR;split<;>simp[unown])
theorem LevC.one:∀{l:List Nd} {C:List AV},LevC l C->allOne C=true
 |[],C,h=>by rw[show C=[] from h];rfl
 | n::r,C,⟨w,D,h1,h2,h3⟩=>by
   rw[h1,allOne_append,LevC.one h3,Bool.and_true]
   have:=one_unown h2
   simp[Nd.cells,allOne,this]
   exact⟨rfl,rfl,rfl,rfl,rfl⟩
theorem appR_one {H:Heap} {id m:Nat} {C:List AV} (h:H[id]? =some (.cells C)) (hl:C.length=m*6) (ho:allOne C=true) (hm:m<=1000) {a b c d e f:AV} (h1:allOne [a,b,c,d,e,f]=true):
   appR 6 64 (.rsl 6 id m) (.sl 6 1 [a,b,c,d,e,f] .ro) H=some (.val (.rsl 6 H.length (m+1)),H.set id .dead++[.cells (C++[a,b,c,d,e,f])]):=by
 have ht:List.take (1*6) [a,b,c,d,e,f]=[a,b,c,d,e,f]:=rfl
 simp only[appR,h]
 rw[ht,if_pos ⟨by decide,by omega,by omega,by decide,trivial,trivial,Nat.le_refl _,h1⟩,if_pos ⟨hl,ho⟩]
theorem leafNd {l:Int} (hl:U6 l) (ps:List (Int×Int)) (h:∀p∈ps,U6 p.1/\U6 p.2) (hn:ps.length<=27):NdT ⟨0,0,l,leafL,0,ps⟩:=⟨(by decide:(0:Int)<=0/\(0:Int)<=12),(by decide:(0:Int)<=0/\(0:Int)<=2047),hl,(by decide:(0:Int)<=9223372036854775808/\(9223372036854775808:Int)<18446744073709551616),(by decide:(0:Int)<=0/\(0:Int)<=2),h,hn⟩
theorem NdT.push {n:Nd} (h:NdT n) {x:Int×Int} (hx:U6 x.1/\U6 x.2) (hl:n.ps.length<=26):NdT {n with ps:=n.ps++[x]}:=
 ⟨h.v,h.s,h.l,h.f,h.y,fun p hp=>by
   rcases List.mem_append.1 hp with hp|hp
   . exact h.ps p hp
   . rw[List.mem_singleton.1 hp];exact hx,by simp;omega⟩
def needL (m:Nat):Nat:=if m=1 then 1 else m+1
structure Tre (p:List (Int×Int)) (nds:List Nd) (out:List (Int×Int)) (used id:Nat) (vo:AV) (H:Heap):Prop where
 cells:∃C,H[id]? =some (.cells C)/\LevC nds C
 own:Own H 2 vo out.length (encs putA out)/\∀a b c,vo≠ .sl a b c .e
 all:∀x∈nds,NdT x
 low:∀x∈nds,x.v<=1
 one:nds.length≠1->∀x∈nds,x.v=0
 pos:1<=nds.length/\nds.length<=4
 need:used+needL nds.length=needsN p.length
 outl:out.length=64*used
 outu:∀q∈out,U6 q.2
theorem cut_ret {cb:CB} {rd:Option Nat} {n:Nat} {G:Prop} {Q:KP} {ks:List Kt} {e:Ex} {df:List ADf} (P:Env->Heap->Prop) (main:(∀E H,P E H->Ret cb rd n Q ks e E df H)->G) (rest:∀E H,P E H->Ret cb rd n Q ks e E df H):G:=main rest
theorem split_at {α:Type}:∀(i:Nat) (l:List α),i<l.length->∃A x B,l=A++x::B/\A.length=i
 |0,x::r,_=>⟨[],x,r,rfl,rfl⟩
 | i+1,x::r,h=>by
   obtain⟨A,y,B,e,h2⟩:=split_at i r (by simpa using h)
   exact⟨x::A,y,B,by rw[e];rfl,by rw[List.length_cons,h2]⟩
theorem nodeM_u {n:Nd} (h:NdT n):∀x∈nodeM n.v n.s n.l n.f n.y n.ps,U6 x:=by
 have hv:=h.v
 have hs:=h.s
 have hy:=h.y
 have em:nmark=7522529147838689024:=rfl
 intro x hx
 unfold nodeM at hx
 rcases List.mem_append.1 hx with hx|hx
 . simp only[List.mem_cons,List.not_mem_nil,or_false]at hx
   unfold U6
   rcases hx with rfl|rfl|rfl|rfl|rfl|rfl|rfl|rfl
   . omega
   . omega
   . exact h.l
   . exact h.f
   . omega
   . omega
   . omega
   . omega
 . obtain⟨p,hp,hx⟩:=List.mem_flatMap.1 hx
   have hu:U6 p.1/\U6 p.2:=by
     rcases List.mem_append.1 hp with hp|hp
     . exact h.ps p hp
     . rw[List.eq_of_mem_replicate hp];exact⟨(by decide:(0:Int)<=0/\(0:Int)<18446744073709551616),(by decide:(0:Int)<=0/\(0:Int)<18446744073709551616)⟩
   simp only[List.mem_cons,List.not_mem_nil,or_false]at hx
   rcases hx with rfl|rfl
   . exact hu.1
   . exact hu.2
theorem lw6 (n:Nd) (w:AV):(n.cells w).length=6:=rfl
def putsK (a:Int) (w:List Int) (k:Nat):List (Int×Int):=(List.range k).map fun(j:Nat)=>(64*a+(j:Int),w[j]?.getD 0)
theorem putsK_succ (a:Int) (w:List Int) (k:Nat):putsK a w (k+1)=putsK a w k++[(64*a+(k:Int),w[k]?.getD 0)]:=by
 unfold putsK
 rw[List.range_succ,List.map_append];rfl
theorem putsK_len (a:Int) (w:List Int) (k:Nat):(putsK a w k).length=k:=by simp[putsK]
theorem aboveNd {l f:Int} (hl:U6 l) (hf:U6 f) (ps:List (Int×Int)) (h:∀p∈ps,U6 p.1/\U6 p.2) (hn:ps.length<=27):NdT ⟨1,0,l,f,0,ps⟩:=⟨(by decide:(0:Int)<=1/\(1:Int)<=12),(by decide:(0:Int)<=0/\(0:Int)<=2047),hl,hf,(by decide:(0:Int)<=0/\(0:Int)<=2),h,hn⟩
structure Lvs (p pre:List (Int×Int)) (A:List Nd) (n:Nd) (id:Nat) (H:Heap):Prop where
 cells:∃C w,H[id]? =some (.cells (C++n.cells w))/\LevC A C/\Own H 2 w n.ps.length (encs pairA n.ps)/\(∀a b c,w≠ .sl a b c .e)
 cnt:pre.length=18*A.length+n.ps.length
 le:n.ps.length<=18
 pos:1<=n.ps.length∨pre=[]
 all:∀x∈A,NdT x/\x.v=0
 last:NdT n/\n.v=0
theorem above_ic {H:Heap} {nds:List Nd} {C:List AV} {AT:List Int} {id ga:Nat} (hc:H[id]? =some (.cells C)) (hC:LevC nds C) (h1:1<=nds.length) (h19:nds.length<=19) (hl:AT.length=nds.length) (hu:∀a∈AT,1<=a/\a<=63) (hT:∀y∈nds,NdT y/\y.v=0):
   ∃H' id' n C',(cbL tab).ic 54 [.rsl 6 id nds.length,.sl 1 nds.length (encs i64A AT) (.own ga)] H=some (.ret (.rsl 6 id' 1),H')/\H'[id']? =some (.cells C')/\LevC [n] C'/\NdT n/\n.v<=1/\(∀j,j<H.length->H'[j]? =H[j]?)/\H.length<=H'.length:=by
 have key:∃o H',(cbL tab).ic 54 [.rsl 6 id nds.length,.sl 1 nds.length (encs i64A AT) (.own ga)] H=some (o,H')/\∃id' n C',o= .ret (.rsl 6 id' 1)/\H'[id']? =some (.cells C')/\LevC [n] C'/\NdT n/\n.v<=1/\(∀j,j<H.length->H'[j]? =H[j]?)/\H.length<=H'.length:=by
   refine ic_wp (fi:=c54) rfl rfl (by simp[c54]) (by decide) ?_
   unfold c54
   have at_:∀(i:Nat),i<nds.length->∃n a,C[i*6]? =some (.int .i64 n.v)/\C[i*6+2]? =some (.int .u64 n.l)/\NdT n/\n.v=0/\List.drop i (encs i64A AT)= .int .i64 a::encs i64A (AT.drop (i+1))/\(1<=a/\a<=63):=by
     intro i hi
     obtain⟨A,n,B,e,hA⟩:=split_at i nds hi
     rw[e]at hC
     obtain⟨C1,D,rfl,hC1,w,C2,rfl,_,_⟩:=hC.cut
     have l1:=hC1.len
     rw[hA]at l1
     obtain⟨a,ha⟩:∃a,AT[i]? =some a:=⟨_,List.getElem?_eq_getElem (by omega)⟩
     obtain⟨ha1,ha2⟩:=List.getElem?_eq_some_iff.1 ha
     refine⟨n,a, ?_, ?_,(hT n (by rw[e];simp)).1,(hT n (by rw[e];simp)).2, ?_,hu a (List.mem_of_getElem? ha)⟩
     . rw[List.getElem?_append_right (by omega),l1,Nat.sub_self];rfl
     . rw[List.getElem?_append_right (by omega),l1,Nat.add_sub_cancel_left];rfl
     . have:=encs_drop (f:=i64A) AT i
       rw[Nat.mul_one]at this
       rw[this,List.drop_eq_getElem_cons ha1,ha2,encs_cons];rfl
   obtain⟨n0,a0,c00,c02,T0,v0,d0,ua0⟩:=at_ 0 (by omega)
   rw[Nat.zero_mul]at c00
   rw[Nat.zero_mul,Nat.zero_add]at c02
   rw[List.drop_zero]at d0
   have hm0:0<(nds.length:Int):=by omega
   have ap:∀x y,appR 6 64 (.sl 0 0 [] .z) (.sl 6 1 [.int .i64 x,.int .i64 0,.int .u64 n0.l,.int .u64 y,.int .i64 0,.sl 0 0 [] .z] .ro) H=some (.val (.rsl 6 H.length 1),H++[.cells [.int .i64 x,.int .i64 0,.int .u64 n0.l,.int .u64 y,.int .i64 0,.sl 0 0 [] .z]]):=fun x y=>rfl
   simp(disch:=omega)only[wk,tupled,↓reduceIte,reduceEqDiff,reduceEq,reduceAdd,reduceCtorEq]
   rw[ret_loop]
   simp(disch:=omega)only[wk,tupled,↓reduceIte,reduceEqDiff,reduceEq,reduceAdd,reduceCtorEq,hm0,hc,c00,c02,Int.reduceToNat,Int.reduceAdd,Int.reduceSub,Int.reduceMul,Int.reduceNeg,Nat.reduceSub,Nat.reduceDiv,v0,d0,ap]
   refine ret_again (by decide) (.inl rfl) ?_
   refine loop_ind (fun(x:Nat×Nd) E df H2=>(1<=x.1/\x.1<=nds.length)/\E 0= .rsl 6 id nds.length/\E 1= .sl 1 nds.length (encs i64A AT) (.own ga)/\E 5= .rsl 6 H.length 1/\E 6= .int .i64 ((x.1:Nat):Int)/\df=[]/\H2[id]? =some (.cells C)/\(∀j,j<H.length->H2[j]? =H[j]?)/\H.length<=H2.length/\NdT x.2/\x.2.v=1/\x.2.ps.length+1=x.1∧
       ∃w,H2[H.length]? =some (.cells (x.2.cells w))/\Own H2 2 w x.2.ps.length (encs pairA x.2.ps)/\(∀a b c,w≠ .sl a b c .e)/\∀g,tokOf w=some g->H.length<=g)
     (fun x=>nds.length-x.1) (1,⟨1,0,n0.l,a0,0,[]⟩) (by decide) (.inl rfl) ⟨⟨Nat.le_refl _,h1⟩,by simp only[en,↓reduceIte,reduceEqDiff],by simp only[en,↓reduceIte,reduceEqDiff];rw[d0],by simp only[en,↓reduceIte,reduceEqDiff],by simp only[en,↓reduceIte,reduceEqDiff];rfl,rfl,by rw[List.getElem?_append_left (List.getElem?_eq_some_iff.1 hc).1];exact hc,fun j hj=>List.getElem?_append_left hj,by rw[List.length_append];exact Nat.le_add_right _ _,aboveNd T0.l ⟨by omega,by omega⟩ _ (fun x h=>(by cases h)) (Nat.zero_le _),rfl,rfl,.sl 0 0 [] .z,by rw[List.getElem?_append_right (Nat.le_refl _),Nat.sub_self];rfl,.inl ⟨.inl rfl,rfl,rfl⟩,fun a b c e=>(by cases e),fun g hg=>(by cases hg)⟩ ?_
   clear c00 c02 d0 ap hm0 v0
   intro ⟨i,n⟩ E df H2 ih hP
   obtain⟨hi,E0,E1,E5,E6,hdf,hc2,hkp,hlen,hnT,hnv,hnl,w,hcw,hO,hw,htk⟩:=hP
   dsimp only at hi E6 hnT hnv hnl hcw hO
   subst hdf
   by_cases him:i<nds.length
   case neg=>
     simp(disch:=omega)only[wk,tupled,↓reduceIte,reduceEqDiff,reduceEq,reduceAdd,reduceCtorEq,E0,E1,E5,E6]
     exact⟨H.length,n,_,rfl,hcw,⟨w,[],by simp,own_unown hO hw,rfl⟩,hnT,by omega,hkp,hlen⟩
   obtain⟨ni,ai,_,ci2,Ti,_,di,uai⟩:=at_ i him
   have h19':¬(i:Int) % 19=0:=by omega
   have lw:=lw6 n w
   have g5:(n.cells w)[5]? =some w:=rfl
   have tk5:List.take 5 (n.cells w)=(n.cells .nilp).take 5:=rfl
   have dr6:List.drop 6 (n.cells w)=[]:=rfl
   have t0:(((0:Nat):Int)+1-1)=0:=rfl
   have t1:Int.toNat 0=0:=rfl
   simp(disch:=omega)only[wk,tupled,↓reduceIte,reduceEqDiff,reduceEq,reduceAdd,reduceCtorEq,E0,E1,E5,E6,h19',hc2,hcw,ci2,di,lw,g5,t0,t1,Nat.zero_mul,Nat.zero_add,Nat.mul_one]
   refine runX_app hO (by decide) (by omega) (by omega) (by decide) rfl rfl fun H3 ho3 hk3 hl3=> ?_
   have hc3:=hk3.cells hO rfl hc2 (fun s e=>by cases e)
   have hcw3:=hk3.cells hO rfl hcw (fun s e=>by cases e)
   simp(disch:=omega)only[wk,tupled,↓reduceIte,reduceEqDiff,reduceEq,reduceAdd,reduceCtorEq,E0,E1,E5,E6,hcw3,t0,t1,lw,tk5,dr6,Nat.zero_mul,Nat.zero_add]
   refine ih (i+1,{n with ps:=n.ps++[(ni.l,ai)]}) _ _ _ (by dsimp only;omega) ?_
   have hne:id≠H.length:=by have:=(List.getElem?_eq_some_iff.1 hc).1;omega
   have e2:encs pairA (n.ps++[(ni.l,ai)])=encs pairA n.ps++[.int .u64 ni.l,.int .u64 ai]:=by rw[encs_append];rfl
   refine⟨⟨by dsimp only;omega,by dsimp only;omega⟩,by simp only[en,↓reduceIte,reduceEqDiff,E0],by simp only[en,↓reduceIte,reduceEqDiff,E1],by simp only[en,↓reduceIte,reduceEqDiff,E5],by simp only[en,↓reduceIte,reduceEqDiff],rfl,by rw[List.getElem?_set_ne hne.symm];exact hc3,fun j hj=> ?_,by rw[List.length_set];omega,hnT.push ⟨Ti.l,⟨by dsimp only;omega,by dsimp only;omega⟩⟩ (by omega),hnv,by simp only[List.length_append,List.length_singleton];omega,
     .sl 2 (n.ps.length+1) (encs pairA n.ps++[.int .u64 ni.l,.int .u64 ai]) (.own H2.length),by rw[set_eq hcw3];rfl, ?_,fun a b c e=>(by cases e),fun g hg=>by cases hg;exact hlen⟩
   . rw[List.getElem?_set_ne (by omega)]
     obtain⟨o,ho⟩:∃o,H[j]? =some o:=⟨_,List.getElem?_eq_getElem hj⟩
     have h2:=hkp j hj
     rw[ho]at h2 ⊢
     refine hk3 j o h2 (fun e=> ?_)
     have:=htk j e
     omega
   . rw[e2,List.length_append]
     exact Own.set ho3 hcw3 (fun s e=>by cases e)
 obtain⟨o,H',h,id',n,C',rfl,k⟩:=key
 exact⟨H',id',n,C',h,k⟩
theorem in_above (a b c d e:Nat) (x:List AV) (k:Tk) (H:Heap):pcx (cbL tab) 54 [.rsl a b c,.sl d e x k] H=none:=pcx_none rfl (pc_none (fi:=c54) rfl rfl)
theorem ll_above:(cbL tab).lent 54=false:=rfl
theorem build_pc {p:List (Int×Int)} {fr:List Int} (hp:riseM [] p) (hn:p.length<=62) (hu:∀x∈p,U6 x.1/\U6 x.2) (hb:blkM [] fr=true) (hfl:fr.length<=64) (hfu:∀x∈fr,1<=x/\x<=63) (hnd:needsN p.length<=fr.length):
   ∃r,(cbL tab).pc 26 [slvR 2 pairA p,slvR 1 i64A fr]=some r/\∃root puts used,r= .plain (.tup [.int .i64 root,slvR 2 putA puts,.int .i64 ((used:Nat):Int),.int .i64 0])/\used=needsN p.length/\(1<=root/\root<=63)/\puts.length<=100000/\∀q∈puts,U6 q.2:=by
 obtain⟨s1,t1,e1,z1,f1⟩:=slvR_form 2 pairA p
 obtain⟨s2,t2,e2,z2,f2⟩:=slvR_form 1 i64A fr
 have u1:unown (.sl s1 p.length (encs pairA p) t1)= .sl s1 p.length (encs pairA p) t1:=by rw[<-e1];cases p<;>rfl
 have u2:unown (.sl s2 fr.length (encs i64A fr) t2)= .sl s2 fr.length (encs i64A fr) t2:=by rw[<-e2];cases fr<;>rfl
 have hri:=fun H=>rising_yes p s1 t1 u1 f1 z1 (by omega) hp H
 have hbl:=fun H=>blocks_px fr [] s2 t2 z2 rfl (by omega) H
 rw[List.append_nil,hb]at hbl
 have hne:=fun H=>needs_px (n:=p.length) (by omega) H
 rw[e1,e2]
 refine pc_wpE (fi:=c26) rfl ?_ (by simp[c26]) (by decide) ?_
 . have k1:=hf_pairA p
   have k2:hfL (encs i64A fr)=true:=hfL_encs (fun _=>rfl) fr
   show hfL [unown _,unown _]=true
   rw[u1,u2]
   simp[hfL,AV.hf,k1,k2,f1,f2]
 unfold c26
 have l1:lend (.sl s1 p.length (encs pairA p) t1)= .sl s1 p.length (encs pairA p) t1:=u1
 have l2:lend (.sl s2 fr.length (encs i64A fr) t2)= .sl s2 fr.length (encs i64A fr) t2:=u2
 rw[List.map_cons,List.map_cons,List.map_nil,l1,l2]
 have hnd':¬(fr.length:Int)<(needsN p.length:Nat):=by omega
 simp(disch:=omega)only[wk,tupled,↓reduceIte,reduceEqDiff,reduceEq,reduceAdd,reduceCtorEq,hri,hbl,hne,hnd']
 refine loop_ind (fun(x:(List (Int×Int)×List (Int×Int))×List Nd×Nd) E df H=>p=x.1.1++x.1.2/\E 0= .sl s1 p.length (encs pairA p) t1/\E 1= .sl s2 fr.length (encs i64A fr) t2/\E 9= .int .i64 (x.1.1.length:Nat)/\df=[]/\∃id,E 8= .rsl 6 id (x.2.1.length+1)/\Lvs p x.1.1 x.2.1 x.2.2 id H)
   (fun x=>x.1.2.length) (([],p),[],⟨0,0,0,leafL,0,[]⟩) (by decide) (.inl rfl) ⟨rfl,by simp only[en,↓reduceIte,reduceEqDiff],by simp only[en,↓reduceIte,reduceEqDiff],by simp only[en,↓reduceIte,reduceEqDiff];rfl,rfl,0,by simp only[en,↓reduceIte,reduceEqDiff], ?_⟩ ?_
 . exact⟨⟨[],.sl 0 0 [] .z,rfl,rfl,.inl ⟨.inl rfl,rfl,rfl⟩,fun a b c e=>(by cases e)⟩,rfl,Nat.zero_le _,.inr rfl,fun x h=>(by cases h),⟨leafNd ⟨by decide,by decide⟩ _ (fun x h=>(by cases h)) (Nat.zero_le _),rfl⟩⟩
 intro ⟨⟨pre,suf⟩,A,n⟩ E df H ih hP
 obtain⟨a1,E0,E1,E9,hdf,id,E8,⟨C,w,hc,hC,hO,hw⟩,hcnt,hle,hpos,hall,hlast⟩:=hP
 dsimp only at a1 E9 E8 hc hC hO hcnt hle hpos hall hlast
 subst hdf
 have hll:p.length=pre.length+suf.length:=by rw[a1,List.length_append]
 cases suf with
 | nil=>
   clear ih
   simp only[List.length_nil,Nat.add_zero]at hll
   simp(disch:=omega)only[wk,tupled,↓reduceIte,reduceEqDiff,reduceEq,reduceAdd,reduceCtorEq,E0,E1,E8,E9]
   have hcl:LevC (A++[n]) (C++n.cells w):=hC.app ⟨w,[],by simp,own_unown hO hw,rfl⟩
   have hall2:∀y∈A++[n],NdT y/\y.v=0:=fun y hy=>by
     rcases List.mem_append.1 hy with hy|hy
     . exact hall y hy
     . rw[List.mem_singleton.1 hy];exact hlast
   have la:(A++[n]).length=A.length+1:=by simp
   have hm4:A.length+1<=4:=by omega
   have hnl:needL (A.length+1)=needsN p.length:=by
     unfold needL needsN
     rcases hpos with hpos|hpos
     . by_cases h1:A.length=0
       . rw[if_pos (by omega),if_pos (by omega)]
       . rw[if_neg (by omega),if_neg (by omega)];omega
     . have:pre.length=0:=by rw[hpos];rfl
       rw[if_pos (by omega),if_pos (by omega)]
   have h0:Tre p (A++[n]) [] 0 id (.sl 0 0 [] .z) H:=⟨⟨_,hc,hcl⟩,⟨.inl ⟨.inl rfl,rfl,rfl⟩,fun a b c e=>(by cases e)⟩,fun y hy=>(hall2 y hy).1,fun y hy=>by rw[(hall2 y hy).2];decide,fun _ y hy=>(hall2 y hy).2,by rw[la];omega,by rw[la];omega,rfl,fun q hq=>by cases hq⟩
   rw[<-la]at E8
   clear hc hC hO hw hcnt hle hpos hall hlast hcl hall2 hm4 hnl E9 E0 hll
   generalize A++[n]=nds at*
   refine loop_ind (fun(x:List Nd×List (Int×Int)×Nat) E df H=>E 1= .sl s2 fr.length (encs i64A fr) t2/\E 12= .int .i64 ((x.2.2:Nat):Int)/\df=[]/\∃id vo,E 8= .rsl 6 id x.1.length/\E 11=vo/\Tre p x.1 x.2.1 x.2.2 id vo H)
     (fun x=>x.1.length) (nds,[],0) (by decide) (.inl rfl) ⟨by simp only[en,↓reduceIte,reduceEqDiff,E1],by simp only[en,↓reduceIte,reduceEqDiff];rfl,rfl,id,.sl 0 0 [] .z,by simp only[en,↓reduceIte,reduceEqDiff,E8],by simp only[en,↓reduceIte,reduceEqDiff],h0⟩ ?_
   clear h0 E1 E8 la
   intro ⟨nds,out,used⟩ E df H ih hP
   obtain⟨E1,E12,hdf,id,vo,E8,E11,hT⟩:=hP
   dsimp only at E12 E8 E11 hT
   subst hdf
   obtain⟨⟨C,hc,hC⟩,⟨hO,hw⟩,hall,hlow,hone,hpos,hneed,houtl,houtu⟩:=hT
   have hul:used+nds.length<=fr.length:=by
     have:nds.length<=needL nds.length:=by unfold needL;split<;>omega
     omega
   simp(disch:=omega)only[wk,tupled,↓reduceIte,reduceEqDiff,reduceEq,reduceAdd,reduceCtorEq,E1,E8,E11,E12]
   refine loop_ind (fun(i:Nat) E df H2=>i<=nds.length/\E 1= .sl s2 fr.length (encs i64A fr) t2/\E 8= .rsl 6 id nds.length/\E 11=vo/\E 12= .int .i64 ((used:Nat):Int)/\E 14= .int .i64 ((i:Nat):Int)/\df=[]/\H2[id]? =some (.cells C)/\Own H2 2 vo out.length (encs putA out)/\H.length<=H2.length∧
       ∃va,E 13=va/\Own H2 1 va i (encs i64A ((fr.drop used).take i))/\(∀a b c,va≠ .sl a b c .e)/\∀g,tokOf va=some g->H.length<=g)
     (fun i=>nds.length-i) 0 (by decide) (.inl rfl) ⟨Nat.zero_le _,by simp only[en,↓reduceIte,reduceEqDiff,E1],by simp only[en,↓reduceIte,reduceEqDiff,E8],by simp only[en,↓reduceIte,reduceEqDiff,E11],by simp only[en,↓reduceIte,reduceEqDiff,E12],by simp only[en,↓reduceIte,reduceEqDiff];rfl,rfl,hc,hO,Nat.le_refl _,.sl 0 0 [] .z,by simp only[en,↓reduceIte,reduceEqDiff],.inl ⟨.inl rfl,rfl,rfl⟩,fun a b c e=>(by cases e),fun g hg=>(by cases hg)⟩ ?_
   intro i E df H2 ih2 hP
   obtain⟨hi,E1,E8,E11,E12,E14,hdf,hc2,hO2,hlen,va,E13,hOa,hwa,htk⟩:=hP
   subst hdf
   by_cases him:i<nds.length
   . obtain⟨a,ha⟩:∃a,fr[used+i]? =some a:=⟨_,List.getElem?_eq_getElem (by omega)⟩
     obtain⟨ha1,ha2⟩:=List.getElem?_eq_some_iff.1 ha
     have dd:List.drop (used+i) (encs i64A fr)= .int .i64 a::encs i64A (fr.drop (used+i+1)):=by
       have:=encs_drop (f:=i64A) fr (used+i)
       rw[Nat.mul_one]at this
       rw[this,List.drop_eq_getElem_cons ha1,ha2,encs_cons];rfl
     have hs1:s2=1:=z2 (by intro e;rw[e]at ha1;exact absurd ha1 (Nat.not_lt_zero _))
     have tt:((used:Int)+(i:Int)).toNat=used+i:=by omega
     simp(disch:=omega)only[wk,tupled,↓reduceIte,reduceEqDiff,reduceEq,reduceAdd,reduceCtorEq,E1,E8,E11,E12,E13,E14,hs1,tt,dd,Nat.mul_one]
     refine runX_app hOa (by decide) (by omega) (by omega) (by decide) rfl rfl fun H3 ho3 hk3 hl3=> ?_
     have hc3:=hk3.cells hOa rfl hc2 (fun s e=>by cases e)
     have hO3:Own H3 2 vo out.length (encs putA out):=by
       refine hO2.kept hk3 ?_
       cases e:tokOf va with
       |none=>exact .inl rfl
       |some g=>exact .inr fun e2=>by have k1:=htk g e;have k2:=hO.tok_lt e2.symm;omega
     simp(disch:=omega)only[wk,tupled,↓reduceIte,reduceEqDiff,reduceEq,reduceAdd,reduceCtorEq,E1,E8,E11,E12,E14]
     refine ih2 (i+1) _ _ _ (by omega) ?_
     refine⟨by omega,by simp only[en,↓reduceIte,reduceEqDiff,E1],by simp only[en,↓reduceIte,reduceEqDiff,E8],by simp only[en,↓reduceIte,reduceEqDiff,E11],by simp only[en,↓reduceIte,reduceEqDiff,E12],by simp only[en,↓reduceIte,reduceEqDiff],rfl,hc3,hO3,by omega,.sl 1 (i+1) (encs i64A ((fr.drop used).take i)++[.int .i64 a]) (.own H2.length),by simp only[en,↓reduceIte,reduceEqDiff], ?_,fun a b c e=>(by cases e),fun g hg=>by cases hg;exact hlen⟩
     have et:(fr.drop used).take (i+1)=(fr.drop used).take i++[a]:=by
       rw[List.take_add_one,List.getElem?_drop,ha];rfl
     rw[et,encs_append]
     exact ho3
   . obtain rfl:i=nds.length:=by omega
     clear ih2
     obtain⟨AT,hAT⟩:∃AT,AT=(fr.drop used).take nds.length:=⟨_,rfl⟩
     have lAT:AT.length=nds.length:=by rw[hAT,List.length_take,List.length_drop];omega
     have uAT:∀a∈AT,1<=a/\a<=63:=fun a h=>hfu a (List.mem_of_mem_drop (List.mem_of_mem_take (by rw[<-hAT];exact h)))
     rw[<-hAT]at hOa
     rcases hOa with⟨_,h0,_⟩|⟨_,ga,hva,_⟩
     . omega
     rw[hva]at E13
     have leA:(encs i64A AT).length=AT.length:=by rw[encs_length (f:=i64A) (k:=1),Nat.mul_one]
     simp(disch:=omega)only[wk,tupled,↓reduceIte,reduceEqDiff,reduceEq,reduceAdd,reduceCtorEq,E1,E8,E11,E12,E13,E14]
     obtain⟨h2,hh2⟩:∃h2,h2=H2.length:=⟨_,rfl⟩
     clear htk hlen
     refine loop_ind (fun(x:Nat×List Nd×List (Int×Int)) E df H3=>x.1<=nds.length/\x.2.1.length=nds.length/\E 1= .sl s2 fr.length (encs i64A fr) t2/\E 8= .rsl 6 id nds.length/\E 12= .int .i64 ((used:Nat):Int)/\E 13= .sl 1 nds.length (encs i64A AT) (.own ga)/\E 15= .int .i64 ((x.1:Nat):Int)/\df=[]∧
         (∃C,H3[id]? =some (.cells C)/\LevC x.2.1 C)/\(∃vo,E 11=vo/\Own H3 2 vo x.2.2.length (encs putA x.2.2)/\∀a b c,vo≠ .sl a b c .e)∧
         (∀y∈x.2.1,NdT y)/\(∀y∈x.2.1,y.v<=1)/\(nds.length≠1->∀y∈x.2.1,y.v=0)/\x.2.2.length=64*(used+x.1)/\∀q∈x.2.2,U6 q.2)
       (fun x=>nds.length-x.1) (0,nds,out) (by decide) (.inl rfl) ⟨Nat.zero_le _,rfl,by simp only[en,↓reduceIte,reduceEqDiff,E1],by simp only[en,↓reduceIte,reduceEqDiff,E8],by simp only[en,↓reduceIte,reduceEqDiff,E12],by simp only[en,↓reduceIte,reduceEqDiff,E13],by simp only[en,↓reduceIte,reduceEqDiff];rfl,rfl,⟨C,hc2,hC⟩,⟨vo,by simp only[en,↓reduceIte,reduceEqDiff,E11],hO2,hw⟩,hall,hlow,hone,houtl,houtu⟩ ?_
     clear hc2 hC hO2 hw hall hlow hone houtl houtu E1 E8 E11 E12 E13 E14 hc hO hh2
     intro ⟨i,nd2,out2⟩ E df H3 ih3 hP
     obtain⟨hi,hn2,E1,E8,E12,E13,E15,hdf,⟨C,hc,hC⟩,⟨vo,E11,hO,hw⟩,hall,hlow,hone,houtl,houtu⟩:=hP
     dsimp only at hi hn2 E15 hC hO hall hlow hone houtl houtu
     subst hdf
     have lC:=hC.len
     rw[hn2]at lC
     by_cases him:i<nds.length
     case neg=>
       obtain rfl:i=nds.length:=by omega
       by_cases h1:nds.length=1
       . have h1':(nds.length:Int)=1:=by omega
         obtain⟨a,ha⟩:∃a,AT=[a]:=by
           match AT,lAT with
           |[a],_=>exact⟨a,rfl⟩
           |[],h=>exact absurd h (by simp;omega)
           |_::_::_,h=>exact absurd h (by simp;omega)
         have ua:=uAT a (by rw[ha];simp)
         rw[ha]at E13
         rw[h1]at E13 E8
         have eA:encs i64A [a]=[.int .i64 a]:=rfl
         simp(disch:=omega)only[wk,tupled,↓reduceIte,reduceEqDiff,reduceEq,reduceAdd,reduceCtorEq,E1,E8,E11,E12,E13,E15,eA,Int.reduceToNat,Int.reduceAdd,Int.reduceSub,Int.reduceMul,Int.reduceNeg,Nat.reduceSub,Nat.reduceDiv]
         have hlo:=own_lend hO hw
         have hhf:(slvR 2 putA out2).hf=true:=slvR_hf (fun _=>rfl) out2
         refine⟨.plain (.tup [.int .i64 a,slvR 2 putA out2,.int .i64 ((used+1:Nat):Int),.int .i64 0]), ?_,a,out2,used+1,rfl, ?_,ua,by omega,houtu⟩
         . show(if(AV.tup [.int .i64 a,lend vo,_,.int .i64 0]).hf=true then some (PR.plain (AV.tup [.int .i64 a,lend vo,_,.int .i64 0]))else none)=_
           rw[hlo,if_pos (by simp[AV.hf,hfL,hhf,lend_int])]
           rfl
         . unfold needL at hneed
           rw[if_pos h1]at hneed
           exact hneed
       . have h1':¬(nds.length:Int)=1:=by omega
         obtain⟨H4,id4,n4,C4,q1,q2,q3,q4,q5,q6,q7⟩:=above_ic (ga:=ga) hc (by exact hC) (by omega) (by omega) (by rw[lAT,hn2]) uAT (fun y hy=>⟨hall y hy,hone h1 y hy⟩)
         rw[hn2]at q1
         simp(disch:=omega)only[wk,tupled,↓reduceIte,reduceEqDiff,reduceEq,reduceAdd,reduceCtorEq,E1,E8,E11,E12,E13,E15,h1',in_above,runE_none ll_above,q1]
         have hO4:Own H4 2 vo out2.length (encs putA out2):=hO.kept (g:=none) (fun j o h _=>by rw[q6 j (List.getElem?_eq_some_iff.1 h).1];exact h) (.inl rfl)
         refine ih ([n4],out2,used+nds.length) _ _ _ (by simp only[List.length_singleton];omega) ?_
         refine⟨by simp only[en,↓reduceIte,reduceEqDiff,E1],by simp only[en,↓reduceIte,reduceEqDiff];rfl,rfl,id4,vo,by simp only[en,↓reduceIte,reduceEqDiff],by simp only[en,↓reduceIte,reduceEqDiff,E11],⟨⟨C4,q2,q3⟩,⟨hO4,hw⟩,fun y hy=>by rw[List.mem_singleton.1 hy];exact q4,fun y hy=>by rw[List.mem_singleton.1 hy];exact q5,fun h=>absurd rfl h,⟨Nat.le_refl _,by dsimp only[List.length_singleton];omega⟩, ?_,houtl,houtu⟩⟩
         unfold needL at hneed
         rw[if_neg h1]at hneed
         show used+nds.length+needL 1=_
         rw[show needL 1=1 from rfl]
         omega
     obtain⟨A2,n2,B2,rfl,hA2⟩:=split_at i nd2 (by omega)
     obtain⟨C1,D,rfl,hC1,w2,C2,rfl,hw2,hC2⟩:=hC.cut
     have lC1:=hC1.len
     rw[hA2]at lC1
     have hnT:=hall n2 (by simp)
     have words:∀n3:Nd,NdT n3->n3.ps=n2.ps->∀H,pcx (cbL tab) 53 [.agg (n3.cells w2)] H=some (.plain (.sl 1 64 (encs u64A (nodeM n3.v n3.s n3.l n3.f n3.y n3.ps)) .ro)):=by
       intro n3 h3 hps H
       obtain⟨s3,t3,e3,z3,f3⟩:=slvR_form 2 pairA n3.ps
       have hl:lend (.agg (n3.cells w2))= .agg (ndC n3.v n3.s n3.l n3.f n3.y (.sl s3 n3.ps.length (encs pairA n3.ps) t3)):=by
         rw[<-e3,hps,<-hw2];rfl
       rw[refwords_px n3.v n3.s n3.l n3.f n3.y n3.ps s3 t3 z3 f3 (by have:=h3.len;omega) h3.v h3.s h3.y _ hl H,nodeM_cells]
     have dC:List.drop (i*6) (C1++(n2.cells w2++C2))=n2.cells w2++C2:=by rw[<-lC1,List.drop_left]
     apply cut_ret (cb:=cbL tab) (rd:=none) (n:=148) (df:=[]) (fun E H=>∃n3:Nd,NdT n3/\n3.v=n2.v/\n3.ps=n2.ps/\E 1= .sl s2 fr.length (encs i64A fr) t2/\E 8= .rsl 6 id nds.length/\E 11=vo/\E 12= .int .i64 ((used:Nat):Int)/\E 13= .sl 1 nds.length (encs i64A AT) (.own ga)/\E 15= .int .i64 ((i:Nat):Int)∧
       E 16= .sl 1 64 (encs u64A (nodeM n3.v n3.s n3.l n3.f n3.y n3.ps)) .ro/\E 17= .int .i64 0/\(∃C,H[id]? =some (.cells C)/\LevC (A2++n3::B2) C)/\Own H 2 vo out2.length (encs putA out2))
     . intro cut
       by_cases hs:(i:Int)+1<nds.length
       . obtain⟨a,ha⟩:∃a,AT[i+1]? =some a:=⟨_,List.getElem?_eq_getElem (by omega)⟩
         obtain⟨ha1,ha2⟩:=List.getElem?_eq_some_iff.1 ha
         have ua:=uAT a (List.mem_of_getElem? ha)
         have dA:List.drop (i+1) (encs i64A AT)= .int .i64 a::encs i64A (AT.drop (i+1+1)):=by
           have:=encs_drop (f:=i64A) AT (i+1)
           rw[Nat.mul_one]at this
           rw[this,List.drop_eq_getElem_cons ha1,ha2,encs_cons];rfl
         have tt:((i:Int)+1).toNat=i+1:=by omega
         have lw:=lw6 n2
         have tk1:List.take (i*6+1) (C1++(n2.cells w2++C2))=C1++[.int .i64 n2.v]:=by rw[<-lC1,List.take_length_add_append];rfl
         have dr1:List.drop (i*6+1+1) (C1++(n2.cells w2++C2))= .int .u64 n2.l:: .int .u64 n2.f:: .int .i64 n2.y::w2::C2:=by rw[<-lC1,Nat.add_assoc,List.drop_length_add_append];rfl
         have eN:C1++[.int .i64 n2.v]++[.int .i64 a]++(.int .u64 n2.l:: .int .u64 n2.f:: .int .i64 n2.y::w2::C2)=C1++(Nd.cells {n2 with s:=a} w2++C2):=by simp[Nd.cells]
         have hT3:NdT {n2 with s:=a}:=⟨hnT.v,⟨by show 0<=a;omega,by show a<=2047;omega⟩,hnT.l,hnT.f,hnT.y,hnT.ps,hnT.len⟩
         have hp:=words {n2 with s:=a} hT3 rfl
         have dC3:List.drop (i*6) (C1++(Nd.cells {n2 with s:=a} w2++C2))=Nd.cells {n2 with s:=a} w2++C2:=by rw[<-lC1,List.drop_left]
         have t6:List.take 6 (Nd.cells {n2 with s:=a} w2++C2)=Nd.cells {n2 with s:=a} w2:=rfl
         have hs1:=fun o=>set_eq (o:=o) hc
         generalize hn3:({n2 with s:=a}:Nd)=n3 at*
         have lw3:=lw6 n3 w2
         simp(disch:=omega)only[wk,tupled,↓reduceIte,reduceEqDiff,reduceEq,reduceAdd,reduceCtorEq,E1,E8,E11,E12,E13,E15,hs,hc,tt,dA,lw,lw3,lC1,tk1,dr1,eN,dC3,t6,hs1,hp,Nat.mul_one]
         refine cut _ _ ⟨n3,hT3,by rw[<-hn3],by rw[<-hn3],by simp only[en,↓reduceIte,reduceEqDiff,E1],by simp only[en,↓reduceIte,reduceEqDiff,E8],by simp only[en,↓reduceIte,reduceEqDiff,E11],by simp only[en,↓reduceIte,reduceEqDiff,E12],by simp only[en,↓reduceIte,reduceEqDiff,E13],by simp only[en,↓reduceIte,reduceEqDiff,E15],by simp only[en,↓reduceIte,reduceEqDiff],by simp only[en,↓reduceIte,reduceEqDiff],⟨_,hs1 _,hC1.app ⟨w2,C2,rfl,by rw[hw2,<-hn3],hC2⟩⟩,hO.set hc (fun s e=>by cases e)⟩
       . have hp:=words n2 hnT rfl
         have lw:=lw6 n2 w2
         have t6:List.take 6 (n2.cells w2++C2)=n2.cells w2:=rfl
         simp(disch:=omega)only[wk,tupled,↓reduceIte,reduceEqDiff,reduceEq,reduceAdd,reduceCtorEq,E1,E8,E11,E12,E13,E15,hs,hc,dC,lw,lC1,t6,hp]
         exact cut _ _ ⟨n2,hnT,rfl,rfl,by simp only[en,↓reduceIte,reduceEqDiff,E1],by simp only[en,↓reduceIte,reduceEqDiff,E8],by simp only[en,↓reduceIte,reduceEqDiff,E11],by simp only[en,↓reduceIte,reduceEqDiff,E12],by simp only[en,↓reduceIte,reduceEqDiff,E13],by simp only[en,↓reduceIte,reduceEqDiff,E15],by simp only[en,↓reduceIte,reduceEqDiff],by simp only[en,↓reduceIte,reduceEqDiff],⟨_,hc,hC1.app ⟨w2,C2,rfl,hw2,hC2⟩⟩,hO⟩
     clear hc hO E1 E8 E11 E12 E13 E15
     intro E H hP
     obtain⟨n3,h3,hv3,hps,E1,E8,E11,E12,E13,E15,E16,E17,⟨C3,hc3,hC3⟩,hO⟩:=hP
     obtain⟨a,ha⟩:∃a,AT[i]? =some a:=⟨_,List.getElem?_eq_getElem (by omega)⟩
     obtain⟨ha1,ha2⟩:=List.getElem?_eq_some_iff.1 ha
     have ua:=uAT a (List.mem_of_getElem? ha)
     have dA:List.drop i (encs i64A AT)= .int .i64 a::encs i64A (AT.drop (i+1)):=by
       have:=encs_drop (f:=i64A) AT i
       rw[Nat.mul_one]at this
       rw[this,List.drop_eq_getElem_cons ha1,ha2,encs_cons];rfl
     have lN:(nodeM n3.v n3.s n3.l n3.f n3.y n3.ps).length=64:=nodeM_len (by have:=h3.len;omega)
     have uN:=nodeM_u h3
     generalize nodeM n3.v n3.s n3.l n3.f n3.y n3.ps=NM at*
     have hol:out2.length=64*(used+i):=houtl
     refine loop_ind (fun(k:Nat) E df H=>k<=64/\E 1= .sl s2 fr.length (encs i64A fr) t2/\E 8= .rsl 6 id nds.length/\E 12= .int .i64 ((used:Nat):Int)/\E 13= .sl 1 nds.length (encs i64A AT) (.own ga)/\E 15= .int .i64 ((i:Nat):Int)/\E 16= .sl 1 64 (encs u64A NM) .ro/\E 17= .int .i64 ((k:Nat):Int)/\df=[]/\H[id]? =some (.cells C3)∧
         ∃vo,E 11=vo/\Own H 2 vo (out2++putsK a NM k).length (encs putA (out2++putsK a NM k))/\∀a b c,vo≠ .sl a b c .e)
       (fun k=>64-k) 0 (by decide) (.inl rfl) ⟨Nat.zero_le _,by simp only[en,↓reduceIte,reduceEqDiff,E1],by simp only[en,↓reduceIte,reduceEqDiff,E8],by simp only[en,↓reduceIte,reduceEqDiff,E12],by simp only[en,↓reduceIte,reduceEqDiff,E13],by simp only[en,↓reduceIte,reduceEqDiff,E15],by simp only[en,↓reduceIte,reduceEqDiff,E16],by simp only[en,↓reduceIte,reduceEqDiff,E17];rfl,rfl,hc3,vo,by simp only[en,↓reduceIte,reduceEqDiff,E11],by rw[show putsK a NM 0=[] from rfl,List.append_nil];exact hO,hw⟩ ?_
     clear E1 E8 E11 E12 E13 E15 E16 E17 hc3 hO hw
     intro k E df H ih4 hP
     obtain⟨hk,E1,E8,E12,E13,E15,E16,E17,hdf,hc3,vo,E11,hO,hw⟩:=hP
     subst hdf
     by_cases hk64:k<64
     case neg=>
       obtain rfl:k=64:=by omega
       simp(disch:=omega)only[wk,tupled,↓reduceIte,reduceEqDiff,reduceEq,reduceAdd,reduceCtorEq,E1,E8,E11,E12,E13,E15,E16,E17]
       refine ih3 (i+1,A2++n3::B2,out2++putsK a NM 64) _ _ _ (by dsimp only;omega) ?_
       have mem:∀(Q:Nd->Prop),Q n3->(∀y∈A2++n2::B2,Q y)->∀y∈A2++n3::B2,Q y:=by
         intro Q q3 qa y hy
         rcases List.mem_append.1 hy with hy|hy
         . exact qa y (List.mem_append_left _ hy)
         . rcases List.mem_cons.1 hy with rfl|hy
           . exact q3
           . exact qa y (List.mem_append_right _ (List.mem_cons_of_mem _ hy))
       exact⟨by dsimp only;omega,by rw[<-hn2];simp,by simp only[en,↓reduceIte,reduceEqDiff,E1],by simp only[en,↓reduceIte,reduceEqDiff,E8],by simp only[en,↓reduceIte,reduceEqDiff,E12],by simp only[en,↓reduceIte,reduceEqDiff,E13],by simp only[en,↓reduceIte,reduceEqDiff],rfl,⟨C3,hc3,hC3⟩,⟨vo,by simp only[en,↓reduceIte,reduceEqDiff,E11],hO,hw⟩,
         mem _ h3 hall,mem _ (by rw[hv3];exact hlow n2 (by simp)) hlow,fun h=>mem _ (by rw[hv3];exact hone h n2 (by simp)) (hone h),by dsimp only;rw[List.length_append,putsK_len,hol];omega,by
           intro q hq
           rcases List.mem_append.1 hq with hq|hq
           . exact houtu q hq
           . obtain⟨j,hj,rfl⟩:=List.mem_map.1 hq
             have hj:=List.mem_range.1 hj
             dsimp only
             rw[List.getElem?_eq_getElem (by omega),Option.getD_some]
             exact uN _ (List.getElem_mem _)⟩
     obtain⟨x,hx⟩:∃x,NM[k]? =some x:=⟨_,List.getElem?_eq_getElem (by omega)⟩
     obtain⟨hx1,hx2⟩:=List.getElem?_eq_some_iff.1 hx
     have dN:List.drop k (encs u64A NM)= .int .u64 x::encs u64A (NM.drop (k+1)):=by
       have:=encs_drop (f:=u64A) NM k
       rw[Nat.mul_one]at this
       rw[this,List.drop_eq_getElem_cons hx1,hx2,encs_cons];rfl
     simp(disch:=omega)only[wk,tupled,↓reduceIte,reduceEqDiff,reduceEq,reduceAdd,reduceCtorEq,E1,E8,E11,E12,E13,E15,E16,E17,dA,dN,Nat.mul_one]
     have hln:(out2++putsK a NM k).length=64*(used+i)+k:=by rw[List.length_append,putsK_len,hol]
     refine runX_app hO (by decide) (by omega) (by omega) (by decide) rfl rfl fun H' ho' hk' hl'=> ?_
     have hc':=hk'.cells hO rfl hc3 (fun s e=>by cases e)
     simp(disch:=omega)only[wk,tupled,↓reduceIte,reduceEqDiff,reduceEq,reduceAdd,reduceCtorEq,E1,E8,E12,E13,E15,E16,E17]
     refine ih4 (k+1) _ _ _ (by omega) ?_
     refine⟨by omega,by simp only[en,↓reduceIte,reduceEqDiff,E1],by simp only[en,↓reduceIte,reduceEqDiff,E8],by simp only[en,↓reduceIte,reduceEqDiff,E12],by simp only[en,↓reduceIte,reduceEqDiff,E13],by simp only[en,↓reduceIte,reduceEqDiff,E15],by simp only[en,↓reduceIte,reduceEqDiff,E16],by simp only[en,↓reduceIte,reduceEqDiff],rfl,hc',.sl 2 ((out2++putsK a NM k).length+1) (encs putA (out2++putsK a NM k)++[.int .i64 (64*a+k),.int .u64 x]) (.own H.length),by simp only[en,↓reduceIte,reduceEqDiff], ?_,fun a b c e=>(by cases e)⟩
     have es:out2++putsK a NM (k+1)=(out2++putsK a NM k)++[(64*a+(k:Int),x)]:=by rw[putsK_succ,hx,List.append_assoc];rfl
     have e2:encs putA (out2++putsK a NM (k+1))=encs putA (out2++putsK a NM k)++[.int .i64 (64*a+k),.int .u64 x]:=by rw[es,encs_append];rfl
     have e3:(out2++putsK a NM (k+1)).length=(out2++putsK a NM k).length+1:=by rw[es,List.length_append];rfl
     rw[e2,e3]
     exact ho'
 | cons x r=>
   simp only[List.length_cons]at hll
   obtain rfl:=z1 (by rw[a1];simp)
   have dd:List.drop (pre.length*2) (encs pairA p)= .int .u64 x.1:: .int .u64 x.2::encs pairA r:=by rw[a1,drop_pre,encs_cons];rfl
   have lC:=hC.len
   by_cases hnew:0<pre.length/\pre.length % 18=0
   . have h0':0<(pre.length:Int):=by omega
     have h18:(pre.length:Int) % 18=0:=by omega
     have hx:=hu x (by rw[a1];simp)
     have hn18:pre.length=18*(A.length+1):=by
       rcases hpos with hpos|hpos
       . omega
       . rw[hpos]at hnew;exact absurd hnew.1 (by decide)
     have hcl:LevC (A++[n]) (C++n.cells w):=hC.app ⟨w,[],by simp,own_unown hO hw,rfl⟩
     have hap:=appR_one hc hcl.len hcl.one (by simp;omega) (a:= .int .i64 0) (b:= .int .i64 0) (c:= .int .u64 x.1) (d:= .int .u64 9223372036854775808) (e:= .int .i64 0) (f:= .sl 0 0 [] .z) rfl
     have lD:=hcl.len
     have la:(A++[n]).length=A.length+1:=by simp
     rw[la]at hap lD
     have g0:∀L:List AObj,(H.set id .dead++L)[H.length]? =L[0]? :=fun L=>by rw[List.getElem?_append_right (by rw[List.length_set];exact Nat.le_refl _),List.length_set,Nat.sub_self]
     generalize hDD:C++n.cells w=D at*
     have g5:(D++[.int .i64 0,.int .i64 0,.int .u64 x.1,.int .u64 9223372036854775808,.int .i64 0,.sl 0 0 [] .z])[(A.length+1)*6+5]? =some (.sl 0 0 [] .z):=by rw[List.getElem?_append_right (by omega),lD,Nat.add_sub_cancel_left];rfl
     have t2':((A.length:Int)+1+1-1)=A.length+1:=by omega
     have t3':((A.length:Int)+1).toNat=A.length+1:=by omega
     simp(disch:=omega)only[wk,tupled,↓reduceIte,reduceEqDiff,reduceEq,reduceAdd,reduceCtorEq,E0,E1,E8,E9,h0',h18,dd,hap,t2',t3',g0,g5,runG_un]
     obtain⟨H2,hH2⟩:∃H2,H2=H.set id .dead++[.cells (D++[AV.int .i64 0,.int .i64 0,.int .u64 x.1,.int .u64 9223372036854775808,.int .i64 0,.sl 0 0 [] .z])]:=⟨_,rfl⟩
     have hc2:H2[H.length]? =some (.cells (D++[AV.int .i64 0,.int .i64 0,.int .u64 x.1,.int .u64 9223372036854775808,.int .i64 0,.sl 0 0 [] .z])):=by rw[hH2,g0];rfl
     rw[<-hH2]
     have hO0:Own H2 2 (.sl 0 0 [] .z) 0 []:= .inl ⟨.inl rfl,rfl,rfl⟩
     refine runX_app hO0 (by decide) (by omega) (by omega) (by decide) rfl rfl fun H' ho' hk hl=> ?_
     have hc':=hk.cells hO0 rfl hc2 (fun s e=>by cases e)
     have lc6:(D++[AV.int .i64 0,.int .i64 0,.int .u64 x.1,.int .u64 9223372036854775808,.int .i64 0,.sl 0 0 [] .z]).length=(A.length+1)*6+6:=by rw[List.length_append,lD];rfl
     have tk5:List.take ((A.length+1)*6+5) (D++[AV.int .i64 0,.int .i64 0,.int .u64 x.1,.int .u64 9223372036854775808,.int .i64 0,.sl 0 0 [] .z])=D++[AV.int .i64 0,.int .i64 0,.int .u64 x.1,.int .u64 9223372036854775808,.int .i64 0]:=by rw[<-lD,List.take_length_add_append];rfl
     have dr5:List.drop ((A.length+1)*6+5+1) (D++[AV.int .i64 0,.int .i64 0,.int .u64 x.1,.int .u64 9223372036854775808,.int .i64 0,.sl 0 0 [] .z])=[]:=List.drop_of_length_le (by rw[lc6];exact Nat.le_refl _)
     simp(disch:=omega)only[wk,tupled,↓reduceIte,reduceEqDiff,reduceEq,reduceAdd,reduceCtorEq,E0,E1,E9,t2',t3',hc',lc6,tk5,dr5]
     refine ih ((pre++[x],r),A++[n],⟨0,0,x.1,leafL,0,[x]⟩) _ _ _ (by simp) ?_
     refine⟨by simp[a1],by simp only[en,↓reduceIte,reduceEqDiff,E0],by simp only[en,↓reduceIte,reduceEqDiff,E1],by simp only[en,↓reduceIte,reduceEqDiff],rfl,H.length,by simp only[en,↓reduceIte,reduceEqDiff,la],⟨⟨D,.sl 2 1 [.int .u64 x.1,.int .u64 x.2] (.own H2.length), ?_,hcl, ?_,fun a b c e=>(by cases e)⟩, ?_, ?_, ?_, ?_, ?_⟩⟩
     . rw[set_eq hc'];simp[Nd.cells,leafL]
     . exact Own.set ho' hc' (fun s e=>by cases e)
     . rw[List.length_append,List.length_append,hn18];rfl
     . simp
     . exact .inl (by simp)
     . intro y hy
       rcases List.mem_append.1 hy with hy|hy
       . exact hall y hy
       . rw[List.mem_singleton.1 hy];exact hlast
     . exact⟨leafNd hx.1 [x] (fun y hy=>by rw[List.mem_singleton.1 hy];exact hx) (by simp),rfl⟩
   . have hnw:¬(0<(pre.length:Int)/\(pre.length:Int) % 18=0):=by omega
     have t2':((A.length:Int)+1-1)=A.length:=by omega
     have g5:(C++n.cells w)[A.length*6+5]? =some w:=by rw[List.getElem?_append_right (by omega),lC,Nat.add_sub_cancel_left];rfl
     have lc6:(C++n.cells w).length=A.length*6+6:=by rw[List.length_append,lC];rfl
     have tk5:List.take (A.length*6+5) (C++n.cells w)=C++(n.cells w).take 5:=by rw[<-lC,List.take_length_add_append]
     have dr5:List.drop (A.length*6+5+1) (C++n.cells w)=[]:=List.drop_of_length_le (by rw[lc6];exact Nat.le_refl _)
     by_cases h0:0<pre.length
     . have h0':0<(pre.length:Int):=by omega
       have h18:¬(pre.length:Int) % 18=0:=by omega
       simp(disch:=omega)only[wk,tupled,↓reduceIte,reduceEqDiff,reduceEq,reduceAdd,reduceCtorEq,E0,E1,E8,E9,h0',h18,dd,t2',hc,g5,runG_un]
       refine runX_app hO (by decide) (by omega) (by omega) (by decide) rfl rfl fun H' ho' hk hl=> ?_
       have hc':=hk.cells hO rfl hc (fun s e=>by cases e)
       simp(disch:=omega)only[wk,tupled,↓reduceIte,reduceEqDiff,reduceEq,reduceAdd,reduceCtorEq,E0,E1,E8,E9,t2',hc',lc6,tk5,dr5]
       refine ih ((pre++[x],r),A,{n with ps:=n.ps++[x]}) _ _ _ (by simp) ?_
       refine⟨by simp[a1],by simp only[en,↓reduceIte,reduceEqDiff,E0],by simp only[en,↓reduceIte,reduceEqDiff,E1],by simp only[en,↓reduceIte,reduceEqDiff],rfl,id,by simp only[en,↓reduceIte,reduceEqDiff,E8],⟨⟨C,.sl 2 (n.ps.length+1) (encs pairA n.ps++[.int .u64 x.1,.int .u64 x.2]) (.own H.length), ?_,hC, ?_,fun a b c e=>(by cases e)⟩, ?_, ?_, ?_,hall, ?_⟩⟩
       . rw[set_eq hc'];simp[Nd.cells]
       . have e:encs pairA n.ps++[AV.int .u64 x.1,AV.int .u64 x.2]=encs pairA (n.ps++[x]):=by rw[encs_append,encs_cons];rfl
         refine Own.set ?_ hc' (fun s e=>by cases e)
         rw[e,List.length_append]
         rw[e]at ho'
         exact ho'
       . simp;omega
       . simp;omega
       . exact .inl (by simp)
       . exact⟨hlast.1.push (hu x (by rw[a1];simp)) (by omega),hlast.2⟩
     . have h0':¬0<(pre.length:Int):=by omega
       simp(disch:=omega)only[wk,tupled,↓reduceIte,reduceEqDiff,reduceEq,reduceAdd,reduceCtorEq,E0,E1,E8,E9,h0',dd,t2',hc,g5,runG_un]
       refine runX_app hO (by decide) (by omega) (by omega) (by decide) rfl rfl fun H' ho' hk hl=> ?_
       have hc':=hk.cells hO rfl hc (fun s e=>by cases e)
       simp(disch:=omega)only[wk,tupled,↓reduceIte,reduceEqDiff,reduceEq,reduceAdd,reduceCtorEq,E0,E1,E8,E9,t2',hc',lc6,tk5,dr5]
       refine ih ((pre++[x],r),A,{n with ps:=n.ps++[x]}) _ _ _ (by simp) ?_
       refine⟨by simp[a1],by simp only[en,↓reduceIte,reduceEqDiff,E0],by simp only[en,↓reduceIte,reduceEqDiff,E1],by simp only[en,↓reduceIte,reduceEqDiff],rfl,id,by simp only[en,↓reduceIte,reduceEqDiff,E8],⟨⟨C,.sl 2 (n.ps.length+1) (encs pairA n.ps++[.int .u64 x.1,.int .u64 x.2]) (.own H.length), ?_,hC, ?_,fun a b c e=>(by cases e)⟩, ?_, ?_, ?_,hall, ?_⟩⟩
       . rw[set_eq hc'];simp[Nd.cells]
       . have e:encs pairA n.ps++[AV.int .u64 x.1,AV.int .u64 x.2]=encs pairA (n.ps++[x]):=by rw[encs_append,encs_cons];rfl
         refine Own.set ?_ hc' (fun s e=>by cases e)
         rw[e,List.length_append]
         rw[e]at ho'
         exact ho'
       . simp;omega
       . simp;omega
       . exact .inl (by simp)
       . exact⟨hlast.1.push (hu x (by rw[a1];simp)) (by omega),hlast.2⟩
end Go.Proofs.YtogbblcnfcfflaaGreat
namespace Go.Proofs.YtogbblcnfcfflaaGreat
open Go Go.Am Go.Slots Go.Nod Go.Rec
def blkW (W:List Int) (b:Nat):List Int:=(W.take (64*b+64)).drop (64*b)
theorem blkW_len {W:List Int} {b:Nat} (h:64*b+64<=W.length):(blkW W b).length=64:=by
 unfold blkW
 rw[List.length_drop,List.length_take]
 omega
theorem blkW_mem {W:List Int} {b:Nat} {x:Int} (h:x∈blkW W b):x∈W:=List.mem_of_mem_take (List.mem_of_mem_drop h)
theorem blkW_cells (W:List Int) (b:Nat):List.drop (64*b) (List.take (64*b+64) (encs u64A W))=encs u64A (blkW W b):=by
 have h1:=encs_take (f:=u64A) W (64*b+64)
 have h2:=encs_drop (f:=u64A) (W.take (64*b+64)) (64*b)
 rw[Nat.mul_one]at h1 h2
 rw[h1,h2];rfl
def hdW:List Int->Hd
 |m::s::l::f::y::a::b::c::_=>⟨m,s,l,f,y,a,b,c⟩
 |_=>⟨0,0,0,0,0,0,0,0⟩
def prsW:List Int->List (Int×Int)
 |x::y::r=>(x,y)::prsW r
 |_=>[]
def psW (xs:List Int):List (Int×Int):=prsW (xs.drop 8)
theorem prsW_flat:∀l:List (Int×Int),prsW (l.flatMap fun p=>[p.1,p.2])=l
 |[]=>rfl
 |x::r=>by rw[List.flatMap_cons,List.cons_append,List.cons_append,List.nil_append,prsW,prsW_flat r]
def U64s (W:List Int):Prop:=∀x∈W,0<=x/\x<18446744073709551616
theorem cutW {xs:List Int} (hl:xs.length=64) (hu:U64s xs):encs u64A xs=wordsA (hdW xs) (psW xs) []/\(psW xs).length=28/\(hdW xs).u:=by
 obtain⟨h,ps,h1,h2,h3⟩:=words_split xs hl
 have e1:hdW xs=h:=by rw[h3];rfl
 have e2:psW xs=ps:=by rw[h3];show prsW (List.flatMap _ ps)=ps;exact prsW_flat ps
 rw[e1,e2]
 refine⟨h1,h2, ?_⟩
 have m:∀x∈[h.m,h.s,h.l,h.f,h.y,h.a,h.b,h.c],0<=x/\x<18446744073709551616:=fun x hx=>hu x (by rw[h3];exact List.mem_append_left _ hx)
 exact⟨m _ (by simp),m _ (by simp),m _ (by simp),m _ (by simp),m _ (by simp)⟩
def leafM (W:List Int) (key:Int):Nat->Int->Int->Option Int
 |0,_,_=>none
 | k+1,b,lv=>
   if 1<=b/\b<((W.length/64:Nat):Int)then
     if(hdW (blkW W b.toNat)).ok/\(lv<0∨(hdW (blkW W b.toNat)).m-nmark=lv)then
       if(hdW (blkW W b.toNat)).m=nmark then some b
       else if chkE (hdW (blkW W b.toNat)) (psW (blkW W b.toNat))=0 then leafM W key k (childL key (hdW (blkW W b.toNat)).f (rdL (hdW (blkW W b.toNat)).f (psW (blkW W b.toNat)))) ((hdW (blkW W b.toNat)).m-nmark-1)
       else none
     else none
   else none
def leafO (o:Option Int):PR:=match o with
 |some b=> .plain (.int .i64 b)
 |none=>panJ 320
theorem blk_px {W:List Int} {b:Nat} (h:64*b+64<=W.length) (hW:W.length<=1000000) (H:Heap):pcx (cbL tab) 59 [.sl 1 W.length (encs u64A W) .ro,.int .i64 ((b:Nat):Int)] H=some (.plain (.sl 1 64 (encs u64A (blkW W b)) .ro)):=by
 refine pcx_N rfl (pc_con (g:=conBlk) rfl rfl ?_)
 have e1:((b:Nat):Int)*64=((64*b:Nat):Int):=by omega
 have e2:(((64*b:Nat):Int)+64).toNat=64*b+64:=by omega
 have e3:(((64*b:Nat):Int)).toNat=64*b:=by omega
 simp only[conBlk]
 rw[if_pos ⟨by omega,by omega⟩,e1]
 simp only[conPc]
 rw[if_pos ⟨by omega,by omega,by omega,by omega,by rw[lenU];exact Nat.le_refl _⟩,e2,e3,blkW_cells]
 rfl
theorem leaf_pc {W:List Int} (hu:U64s W) (h0:0<W.length) (h64:W.length % 64=0) (hW:W.length<=1000000) {a:Nat} (ha:a<W.length) (key:Int):
   (cbL tab).pc 31 [.sl 1 W.length (encs u64A W) .ro,.int .i64 ((a:Nat):Int),.int .u64 key]=some (leafO (leafM W key 13 (W[a]?.getD 0) (-1))):=by
 have hc:=hf_u64A W
 have lW:=lenU W
 refine pc_wp (fi:=c31) rfl ?_ (by simp[c31]) (by decide) ?_
 . simp only[pcOn,List.map_cons,List.map_nil,hfL,hf_lend_sl,hf_lend_int,hf_lend_bool,hf_lend_str,hfL_append,Bool.and_self,Bool.and_true,Bool.true_and,c31,hc]
 unfold c31
 obtain⟨b0,hb0⟩:∃b0,W[a]? =some b0:=⟨_,List.getElem?_eq_getElem ha⟩
 have dd:List.drop a (encs u64A W)= .int .u64 b0::encs u64A (W.drop (a+1)):=by
   have:=encs_drop (f:=u64A) W a
   rw[Nat.mul_one]at this
   obtain⟨h1,h2⟩:=List.getElem?_eq_some_iff.1 hb0
   rw[this,List.drop_eq_getElem_cons h1,h2,encs_cons];rfl
 have hb0u:=hu b0 (List.mem_of_getElem? hb0)
 rw[hb0,Option.getD_some]
 have el:lend (.sl 1 W.length (encs u64A W) .ro)= .sl 1 W.length (encs u64A W) .ro:=rfl
 rw[List.map_cons,List.map_cons,List.map_cons,List.map_nil,el,lend_int,lend_int]
 clear hb0
 obtain⟨R,hR⟩:∃R,R=leafM W key 13 b0 (-1):=⟨_,rfl⟩
 rw[<-hR]
 simp(disch:=omega)only[wk,tupled,↓reduceIte,reduceEqDiff,reduceEq,reduceAdd,reduceCtorEq,dd]
 refine loop_ind (fun(x:Nat×Int×Int) E df H=>x.1<=13/\R=leafM W key (13-x.1) x.2.1 x.2.2/\(0<=x.2.1/\x.2.1<18446744073709551616)/\(-1<=x.2.2/\x.2.2<=12)/\E 0= .sl 1 W.length (encs u64A W) .ro/\E 2= .int .u64 key/\E 7= .int .u64 x.2.1/\E 8= .int .i64 x.2.2/\E 16= .int .i64 ((x.1:Nat):Int)/\df=[])
   (fun x=>13-x.1) (0,b0,-1) (by decide) (.inl rfl) ⟨Nat.zero_le _,hR,hb0u,⟨Int.le_refl _,by show(-1:Int)<=12;omega⟩,by simp only[en,↓reduceIte,reduceEqDiff],by simp only[en,↓reduceIte,reduceEqDiff],by simp only[en,↓reduceIte,reduceEqDiff],by simp only[en,↓reduceIte,reduceEqDiff];rfl,by simp only[en,↓reduceIte,reduceEqDiff];rfl,rfl⟩ ?_
 intro ⟨k,b,lv⟩ E df H ih hP
 obtain⟨hk,hM,hb,hlv,E0,E2,E7,E8,E16,hdf⟩:=hP
 dsimp only at hk hM hb hlv E7 E8 E16
 subst hdf
 by_cases hk13:k<13
 case neg=>
   obtain rfl:k=13:=by omega
   rw[hM]
   have pj:purify (some (.pan [(.iface 37 (.int .i64 320),false)],H))=some (panJ 320):=rfl
   simp(disch:=omega)only[wk,tupled,↓reduceIte,reduceEqDiff,reduceEq,reduceAdd,reduceCtorEq,E0,E2,E7,E8,E16,pj]
   rfl
 obtain⟨kf,hkf⟩:∃kf,13-k=kf+1:=⟨12-k,by omega⟩
 rw[hkf,leafM]at hM
 have rf:=fun H=>rmust_f 320 H
 have rt:=fun H=>rmust_t 320 H
 have pj:∀H,purify (some (.pan [(.iface 37 (.int .i64 320),false)],H))=some (leafO none):=fun H=>rfl
 unfold panJ at rf
 by_cases h1:1<=b
 case neg=>
   rw[if_neg (fun h=>h1 h.1)]at hM
   rw[hM]
   simp(disch:=omega)only[wk,tupled,↓reduceIte,reduceEqDiff,reduceEq,reduceAdd,reduceCtorEq,E0,E2,E7,E8,E16,h1,rf,pj]
   done
 by_cases h2:b<((W.length/64:Nat):Int)
 case neg=>
   rw[if_neg (fun h=>h2 h.2)]at hM
   rw[hM]
   have h2':¬b<(W.length:Int)/64:=by omega
   simp(disch:=omega)only[wk,tupled,↓reduceIte,reduceEqDiff,reduceEq,reduceAdd,reduceCtorEq,E0,E2,E7,E8,E16,h1,h2',rf,pj]
   done
 rw[if_pos ⟨h1,h2⟩]at hM
 have h2':b<(W.length:Int)/64:=by omega
 obtain⟨bn,rfl⟩:∃bn:Nat,b=((bn:Nat):Int):=⟨b.toNat,by omega⟩
 have hbn:64*bn+64<=W.length:=by omega
 have hbx:=fun H=>blk_px hbn hW H
 obtain⟨c1,c2,c3⟩:=cutW (blkW_len hbn) (fun x hx=>hu x (blkW_mem hx))
 rw[c1]at hbx
 rw[Int.toNat_natCast]at hM
 generalize hdW (blkW W bn)=h at*
 generalize psW (blkW W bn)=ps at*
 have of:=fun H=>of_words h c3 ps c2 [] .ro H rfl
 have cd:=fun H=>child_words h c3 ps c2 [] .ro key H rfl
 have g0:∀L:List AObj,(H++L)[H.length]? =L[0]? :=fun L=>by rw[List.getElem?_append_right (Nat.le_refl _),Nat.sub_self]
 have gs:∀(L:List AObj) (o:AObj),(H++L).set H.length o=H++L.set 0 o:=fun L o=>by rw[List.set_append_right _ _ (Nat.le_refl _),Nat.sub_self]
 by_cases hok:h.ok
 case neg=>
   rw[if_neg (fun g=>hok g.1)]at hM
   rw[hM]
   simp only[hok,if_false]at of
   rw[nd0_av]at of
   simp(disch:=omega)only[wk,tupled,↓reduceIte,reduceEqDiff,reduceEq,reduceAdd,reduceCtorEq,E0,E2,E7,E8,E16,h1,h2',rt,hbx,of,g0,gs,rf,pj,runG_un]
   done
 simp only[hok,if_true,true_and]at of hM
 have ok1:=hok.1
 have ok2:=hok.2.1
 unfold Nd.av Nd.cells ndOf at of
 by_cases hl:lv<0∨h.m-nmark=lv
 case neg=>
   rw[if_neg hl]at hM
   rw[hM]
   have l1:¬lv<0:=fun g=>hl (.inl g)
   have l2:¬h.m-nmark=lv:=fun g=>hl (.inr g)
   simp(disch:=omega)only[wk,tupled,↓reduceIte,reduceEqDiff,reduceEq,reduceAdd,reduceCtorEq,E0,E2,E7,E8,E16,h1,h2',rt,hbx,of,g0,gs,l1,l2,rf,pj,runG_un]
   done
 rw[if_pos hl]at hM
 have cs:¬h.m=nmark->chkE h ps=0->1<=childL key h.f (rdL h.f ps)/\childL key h.f (rdL h.f ps)<=2047:=by
   intro hm hck
   have hf:blockI h.f:=by have:=hok.2.2.2.1;rwa[if_neg hm]at this
   have ha:mayAll (h.m-nmark) h.l (rdL h.f ps):=by
     unfold chkE at hck
     split at hck
     . rename_i g;exact g.2
     . cases hck
   exact childL_small (by omega) key _ _ hf ha
 by_cases l1:lv<0
 . by_cases hm:h.m=nmark
   . have hz:h.m-nmark=0:=by omega
     rw[if_pos hm]at hM
     rw[hM]
     have pb:∀H,purify (some (.ret (.int .i64 ((bn:Nat):Int)),H))=some (leafO (some ((bn:Nat):Int))):=fun H=>rfl
     simp(disch:=omega)only[wk,tupled,↓reduceIte,reduceEqDiff,reduceEq,reduceAdd,reduceCtorEq,E0,E2,E7,E8,E16,h1,h2',rt,hbx,of,g0,gs,l1,hz,runG_un,pb]
     done
   have hz:¬h.m-nmark=0:=by omega
   rw[if_neg hm]at hM
   simp only[childR,hok,hm,if_true,if_false]at cd
   by_cases hck:chkE h ps=0
   case neg=>
     rw[if_neg hck]at hM
     rw[hM]
     simp only[hck,if_false]at cd
     simp(disch:=omega)only[wk,tupled,↓reduceIte,reduceEqDiff,reduceEq,reduceAdd,reduceCtorEq,E0,E2,E7,E8,E16,h1,h2',rt,hbx,of,g0,gs,l1,hz,runG_un,cd,rf,pj]
     done
   rw[if_pos hck]at hM
   simp only[hck,if_true]at cd
   obtain⟨q1,q2⟩:=cs hm hck
   simp(disch:=omega)only[wk,tupled,↓reduceIte,reduceEqDiff,reduceEq,reduceAdd,reduceCtorEq,E0,E2,E7,E8,E16,h1,h2',rt,hbx,of,g0,gs,l1,hz,runG_un,cd]
   refine ih (k+1,childL key h.f (rdL h.f ps),h.m-nmark-1) _ _ _ (by simp only;omega) ?_
   exact⟨by dsimp only;omega,by dsimp only;rw[show 13-(k+1)=kf by omega];exact hM,⟨by dsimp only;omega,by dsimp only;omega⟩,⟨by dsimp only;omega,by dsimp only;omega⟩,by simp only[en,↓reduceIte,reduceEqDiff,E0],by simp only[en,↓reduceIte,reduceEqDiff,E2],by simp only[en,↓reduceIte,reduceEqDiff],by simp only[en,↓reduceIte,reduceEqDiff],by simp only[en,↓reduceIte,reduceEqDiff],rfl⟩
 . have l2:h.m-nmark=lv:=hl.resolve_left l1
   by_cases hm:h.m=nmark
   . have hz:h.m-nmark=0:=by omega
     rw[if_pos hm]at hM
     rw[hM]
     have pb:∀H,purify (some (.ret (.int .i64 ((bn:Nat):Int)),H))=some (leafO (some ((bn:Nat):Int))):=fun H=>rfl
     simp(disch:=omega)only[wk,tupled,↓reduceIte,reduceEqDiff,reduceEq,reduceAdd,reduceCtorEq,E0,E2,E7,E8,E16,h1,h2',rt,hbx,of,g0,gs,l1,l2,hz,runG_un,pb]
     done
   have hz:¬h.m-nmark=0:=by omega
   rw[if_neg hm]at hM
   simp only[childR,hok,hm,if_true,if_false]at cd
   by_cases hck:chkE h ps=0
   case neg=>
     rw[if_neg hck]at hM
     rw[hM]
     simp only[hck,if_false]at cd
     simp(disch:=omega)only[wk,tupled,↓reduceIte,reduceEqDiff,reduceEq,reduceAdd,reduceCtorEq,E0,E2,E7,E8,E16,h1,h2',rt,hbx,of,g0,gs,l1,l2,hz,runG_un,cd,rf,pj]
     done
   rw[if_pos hck]at hM
   simp only[hck,if_true]at cd
   obtain⟨q1,q2⟩:=cs hm hck
   simp(disch:=omega)only[wk,tupled,↓reduceIte,reduceEqDiff,reduceEq,reduceAdd,reduceCtorEq,E0,E2,E7,E8,E16,h1,h2',rt,hbx,of,g0,gs,l1,l2,hz,runG_un,cd]
   refine ih (k+1,childL key h.f (rdL h.f ps),h.m-nmark-1) _ _ _ (by simp only;omega) ?_
   exact⟨by dsimp only;omega,by dsimp only;rw[show 13-(k+1)=kf by omega];exact hM,⟨by dsimp only;omega,by dsimp only;omega⟩,⟨by dsimp only;omega,by dsimp only;omega⟩,by simp only[en,↓reduceIte,reduceEqDiff,E0],by simp only[en,↓reduceIte,reduceEqDiff,E2],by simp only[en,↓reduceIte,reduceEqDiff],by simp only[en,↓reduceIte,reduceEqDiff,l2],by simp only[en,↓reduceIte,reduceEqDiff],rfl⟩
theorem leaf_px {W:List Int} (hu:U64s W) (h0:0<W.length) (h64:W.length % 64=0) (hW:W.length<=1000000) {a:Nat} (ha:a<W.length) (key:Int) (H:Heap):
   pcx (cbL tab) 31 [.sl 1 W.length (encs u64A W) .ro,.int .i64 ((a:Nat):Int),.int .u64 key] H=some (leafO (leafM W key 13 (W[a]?.getD 0) (-1))):=by
 have h:=leaf_pc hu h0 h64 hW ha key
 generalize leafM W key 13 (W[a]?.getD 0) (-1)=o at h ⊢
 cases o with
 |none=>exact pcx_Lp rfl (by rw[List.map_cons,List.map_cons,List.map_cons,List.map_nil,lendK_sl,lendK_int,lendK_int]) h rfl
 |some b=>exact pcx_L rfl (by rw[List.map_cons,List.map_cons,List.map_cons,List.map_nil,lendK_sl,lendK_int,lendK_int]) h rfl
def leafR (W:List Int) (at_ key:Int):Int×Int:=
 if 0<=at_/\at_<W.length then(match leafM W key 13 (W[at_.toNat]?.getD 0) (-1)with|some b=>(b,0)|none=>(0,320))else(0,2)
theorem drop_blk {W:List Int} {b:Nat} (h:64*b+64<=W.length):List.drop (64*b) (encs u64A W)=encs u64A (blkW W b)++encs u64A (W.drop (64*b+64)):=by
 have h2:=encs_drop (f:=u64A) W (64*b)
 rw[Nat.mul_one]at h2
 rw[h2,<-encs_append]
 congr 1
 unfold blkW
 rw[List.drop_take,show 64*b+64-64*b=64 by omega,<-List.drop_drop]
 exact(List.take_append_drop 64 (W.drop (64*b))).symm
theorem rat_px {W:List Int} {b:Nat} (h:64*b+64<=W.length) (hW:W.length<=1000000) (H:Heap):pcx (cbL tab) 33 [.sl 1 W.length (encs u64A W) .ro,.int .i64 ((b:Nat):Int)] H=some (.plain (.sl 1 64 (encs u64A (blkW W b)++encs u64A (W.drop (64*b+64))) .ro)):=by
 have hc:=hf_u64A W
 have lW:=lenU W
 refine pcx_N rfl (pc_wp (fi:=c33) rfl ?_ (by simp[c33]) (by decide) ?_)
 . simp only[pcOn,List.map_cons,List.map_nil,hfL,hf_lend_sl,hf_lend_int,hf_lend_bool,hf_lend_str,hfL_append,Bool.and_self,Bool.and_true,Bool.true_and,c33,hc]
 unfold c33
 have el:lend (.sl 1 W.length (encs u64A W) .ro)= .sl 1 W.length (encs u64A W) .ro:=rfl
 rw[List.map_cons,List.map_cons,List.map_nil,el,lend_int]
 have t1:(64*((b:Nat):Int)).toNat=64*b:=by omega
 have t2:(64*((b:Nat):Int)+64).toNat=64*b+64:=by omega
 have cc:=drop_blk h
 have h6:64*b+64-64*b=64:=by omega
 have hb:hfL (encs u64A (blkW W b)++encs u64A (W.drop (64*b+64)))=true:=by rw[hfL_append,hf_u64A,hf_u64A];rfl
 have ei:(if 64*b=0/\64*b+64=W.length then AV.sl 1 W.length (encs u64A W) Tk.ro else AV.sl 1 64 (encs u64A (blkW W b)++encs u64A (W.drop (64*b+64))) Tk.ro)= .sl 1 64 (encs u64A (blkW W b)++encs u64A (W.drop (64*b+64))) .ro:=by
   split
   . rename_i g
     rw[<-cc,g.1,List.drop_zero]
     congr 1
     omega
   . rfl
 have pz:∀H,purify (some (.ret (.sl 1 64 (encs u64A (blkW W b)++encs u64A (W.drop (64*b+64))) .ro),H))=some (.plain (.sl 1 64 (encs u64A (blkW W b)++encs u64A (W.drop (64*b+64))) .ro)):=by
   intro H
   show(if(hfL _&&true)=true then _ else none)=_
   rw[hb];rfl
 simp(disch:=omega)only[wk,tupled,↓reduceIte,reduceEqDiff,reduceEq,reduceAdd,reduceCtorEq,t1,t2,lW,cc,h6,Nat.mul_one,ei,pz]
theorem rclear_l (a:Nat) (H:Heap) (x:AV) (hx:H[a]? =some (.cells [x])):enterA (cbL tab) 29 [.ptr a 0] H=some (.ret (.tup []),H.set a (.cells [.int .i64 0])):=by
 have:∃q H',(cbL tab).ic 29 [.ptr a 0] H=some (q,H')/\q= .ret (.tup [])/\H'=H.set a (.cells [.int .i64 0]):=by
   refine ic_wp (fi:=c29) rfl rfl (by simp[c29]) (by decide) ?_
   unfold c29
   simp(disch:=omega)only[wk,tupled,↓reduceIte,reduceEqDiff,reduceEq,reduceAdd,reduceCtorEq,hx,List.append_nil]
 obtain⟨q,H',h,rfl,rfl⟩:=this
 exact enterA_ic rfl (pc_none (fi:=c29) rfl rfl) h
theorem pleaf_px {W:List Int} (hu:U64s W) (h0:0<W.length) (h64:W.length % 64=0) (hW:W.length<=1000000) (tk:Tk) (htk:lend (.sl 1 W.length (encs u64A W) tk)= .sl 1 W.length (encs u64A W) .ro) (at_ key:Int) (H:Heap):
   pcx (cbL tab) 10 [.sl 1 W.length (encs u64A W) tk,.int .i64 at_,.int .u64 key] H=some (.plain (.tup [.int .i64 (leafR W at_ key).1,.int .i64 (leafR W at_ key).2])):=by
 have hc:=hf_u64A W
 refine pcx_N rfl (pc_wp (fi:=c10) rfl ?_ (by simp[c10]) (by decide) ?_)
 . simp only[pcOn,c10,List.map_cons,List.map_nil,htk,lend_int];simp[hfL,AV.hf,hc,Tk.hf]
 unfold c10
 rw[List.map_cons,List.map_cons,List.map_cons,List.map_nil,htk,lend_int,lend_int]
 have h1:(0:Int)<W.length:=by omega
 have h2:(W.length:Int) % 64=0:=by omega
 have rf:=fun H=>rmust_f 2 H
 have rt:=fun H=>rmust_t 2 H
 have cr:=rcaught_ret
 unfold panJ at rf
 by_cases h3:0<=at_
 case neg=>
   have hr:leafR W at_ key=(0,2):=if_neg (fun g=>h3 g.1)
   simp(disch:=omega)only[wk,tupled,↓reduceIte,reduceEqDiff,reduceEq,reduceAdd,reduceCtorEq,h1,h2,h3,rf,hr]
   rw[ends_left_pan (rcaught_pan 1 _ _ _ _ _ _ _ (rclear_l 0 _ (.int .i64 0) rfl) rfl)]
   simp(disch:=omega)only[wk,tupled,↓reduceIte,reduceEqDiff,reduceEq,reduceAdd,reduceCtorEq,purify,unownT,lend,unown,AV.hf,hfL,lend,unown]
 by_cases h4:at_<W.length
 case neg=>
   have hr:leafR W at_ key=(0,2):=if_neg (fun g=>h4 g.2)
   simp(disch:=omega)only[wk,tupled,↓reduceIte,reduceEqDiff,reduceEq,reduceAdd,reduceCtorEq,h1,h2,h3,h4,rf,hr]
   rw[ends_left_pan (rcaught_pan 1 _ _ _ _ _ _ _ (rclear_l 0 _ (.int .i64 0) rfl) rfl)]
   simp(disch:=omega)only[wk,tupled,↓reduceIte,reduceEqDiff,reduceEq,reduceAdd,reduceCtorEq,purify,unownT,lend,unown,AV.hf,hfL,lend,unown]
 obtain⟨a,rfl⟩:∃a:Nat,at_=((a:Nat):Int):=⟨at_.toNat,by omega⟩
 have lp:=fun H=>leaf_px hu h0 h64 hW (a:=a) (by omega) key H
 have hr:leafR W a key=(match leafM W key 13 (W[a]?.getD 0) (-1)with|some b=>(b,0)|none=>(0,320)):=by
   unfold leafR
   rw[if_pos ⟨h3,h4⟩,Int.toNat_natCast]
 rw[hr]
 generalize leafM W key 13 (W[a]?.getD 0) (-1)=o at*
 cases o with
 | none=>
   unfold leafO panJ at lp
   dsimp only at lp ⊢
   simp(disch:=omega)only[wk,tupled,↓reduceIte,reduceEqDiff,reduceEq,reduceAdd,reduceCtorEq,h1,h2,h3,h4,rt,lp]
   rw[ends_left_pan (rcaught_pan 1 _ _ _ _ _ _ _ (rclear_l 0 _ (.int .i64 0) rfl) rfl)]
   simp(disch:=omega)only[wk,tupled,↓reduceIte,reduceEqDiff,reduceEq,reduceAdd,reduceCtorEq,purify,unownT,lend,unown,AV.hf,hfL,lend,unown]
 | some b=>
   unfold leafO at lp
   dsimp only at lp ⊢
   simp(disch:=omega)only[wk,tupled,↓reduceIte,reduceEqDiff,reduceEq,reduceAdd,reduceCtorEq,h1,h2,h3,h4,rt,lp]
   rw[ends_left_ret (rcaught_ret ..)]
   simp(disch:=omega)only[wk,tupled,↓reduceIte,reduceEqDiff,reduceEq,reduceAdd,reduceCtorEq,purify,unownT,lend,unown,AV.hf,hfL,lend,unown]
theorem pleaf_nil (key:Int) (H:Heap):pcx (cbL tab) 10 [.sl 0 0 [] .z,.int .i64 0,.int .u64 key] H=some (.plain (.tup [.int .i64 0,.int .i64 2])):=by
 refine pcx_N rfl (pc_wp (fi:=c10) rfl rfl (by simp[c10]) (by decide) ?_)
 unfold c10
 have el:lend (.sl 0 0 [] .z)= .sl 0 0 [] .z:=rfl
 rw[List.map_cons,List.map_cons,List.map_cons,List.map_nil,el,lend_int,lend_int]
 have rf:=fun H=>rmust_f 2 H
 unfold panJ at rf
 simp(disch:=omega)only[wk,tupled,↓reduceIte,reduceEqDiff,reduceEq,reduceAdd,reduceCtorEq,Int.reduceToNat,Int.reduceAdd,Int.reduceSub,Int.reduceMul,Int.reduceNeg,Nat.reduceSub,Nat.reduceDiv,rf]
 rw[ends_left_pan (rcaught_pan 1 _ _ _ _ _ _ _ (rclear_l 0 _ (.int .i64 0) rfl) rfl)]
 simp(disch:=omega)only[wk,tupled,↓reduceIte,reduceEqDiff,reduceEq,reduceAdd,reduceCtorEq,purify,unownT,lend,unown,AV.hf,hfL,lend,unown]
def leafT (o:Option Int):AV:=match o with
 |some b=> .tup [.int .i64 b,.int .i64 0]
 |none=> .tup [.int .i64 0,.int .i64 320]
theorem rleaf_px {W:List Int} (hu:U64s W) (h0:0<W.length) (h64:W.length % 64=0) (hW:W.length<=1000000) (tk:Tk) (htk:lend (.sl 1 W.length (encs u64A W) tk)= .sl 1 W.length (encs u64A W) .ro) (at_ key:Int) (H:Heap):
   pcx (cbL tab) 12 [.sl 1 W.length (encs u64A W) tk,.int .i64 at_,.int .u64 key] H=some (.plain (.tup [.int .i64 (leafR W at_ key).1,.int .i64 (leafR W at_ key).2])):=by
 have hc:=hf_u64A W
 have lW:=lenU W
 refine pcx_N rfl (pc_wp (fi:=c12) rfl ?_ (by simp[c12]) (by decide) ?_)
 . simp only[pcOn,c12,List.map_cons,List.map_nil,htk,lend_int];simp[hfL,AV.hf,hc,Tk.hf]
 unfold c12
 rw[List.map_cons,List.map_cons,List.map_cons,List.map_nil,htk,lend_int,lend_int]
 have q1:¬(W.length:Int)=0:=by omega
 have q2:(W.length:Int) % 64=0:=by omega
 have p2:∀H,purify (some (.ret (.tup [.int .i64 0,.int .i64 2]),H))=some (.plain (.tup [.int .i64 0,.int .i64 2])):=fun H=>rfl
 by_cases h3:0<=at_
 case neg=>
   have hr:leafR W at_ key=(0,2):=if_neg (fun g=>h3 g.1)
   simp(disch:=omega)only[wk,tupled,↓reduceIte,reduceEqDiff,reduceEq,reduceAdd,reduceCtorEq,q1,q2,h3,p2,hr]
   done
 by_cases h4:at_<W.length
 case neg=>
   have hr:leafR W at_ key=(0,2):=if_neg (fun g=>h4 g.2)
   simp(disch:=omega)only[wk,tupled,↓reduceIte,reduceEqDiff,reduceEq,reduceAdd,reduceCtorEq,q1,q2,h3,h4,p2,hr]
   done
 obtain⟨a,rfl⟩:∃a:Nat,at_=((a:Nat):Int):=⟨at_.toNat,by omega⟩
 have ha:a<W.length:=by omega
 have hr:AV.tup [.int .i64 (leafR W a key).1,.int .i64 (leafR W a key).2]=leafT (leafM W key 13 (W[a]?.getD 0) (-1)):=by
   unfold leafR
   rw[if_pos ⟨h3,h4⟩,Int.toNat_natCast]
   cases leafM W key 13 (W[a]?.getD 0) (-1)<;>rfl
 rw[hr]
 obtain⟨b0,hb0⟩:∃b0,W[a]? =some b0:=⟨_,List.getElem?_eq_getElem ha⟩
 have dd:List.drop a (encs u64A W)= .int .u64 b0::encs u64A (W.drop (a+1)):=by
   have:=encs_drop (f:=u64A) W a
   rw[Nat.mul_one]at this
   obtain⟨h1,h2⟩:=List.getElem?_eq_some_iff.1 hb0
   rw[this,List.drop_eq_getElem_cons h1,h2,encs_cons];rfl
 have hb0u:=hu b0 (List.mem_of_getElem? hb0)
 rw[hb0,Option.getD_some]
 clear hb0
 obtain⟨R,hR⟩:∃R,R=leafM W key 13 b0 (-1):=⟨_,rfl⟩
 rw[<-hR]
 simp(disch:=omega)only[wk,tupled,↓reduceIte,reduceEqDiff,reduceEq,reduceAdd,reduceCtorEq,q1,q2,h3,h4,dd]
 have pj:∀H,purify (some (.ret (.tup [.int .i64 0,.int .i64 320]),H))=some (.plain (leafT none)):=fun H=>rfl
 refine loop_ind (fun(x:Nat×Int×Int) E df H=>x.1<=13/\R=leafM W key (13-x.1) x.2.1 x.2.2/\(0<=x.2.1/\x.2.1<18446744073709551616)/\(-1<=x.2.2/\x.2.2<=12)/\E 0= .sl 1 W.length (encs u64A W) .ro/\E 2= .int .u64 key/\E 8= .int .u64 x.2.1/\E 9= .int .i64 x.2.2/\E 10= .int .i64 ((x.1:Nat):Int)/\df=[])
   (fun x=>13-x.1) (0,b0,-1) (by decide) (.inl rfl) ⟨Nat.zero_le _,hR,hb0u,⟨Int.le_refl _,by show(-1:Int)<=12;omega⟩,by simp only[en,↓reduceIte,reduceEqDiff],by simp only[en,↓reduceIte,reduceEqDiff],by simp only[en,↓reduceIte,reduceEqDiff],by simp only[en,↓reduceIte,reduceEqDiff];rfl,by simp only[en,↓reduceIte,reduceEqDiff];rfl,rfl⟩ ?_
 intro ⟨k,b,lv⟩ E df H ih hP
 obtain⟨hk,hM,hb,hlv,E0,E2,E8,E9,E10,hdf⟩:=hP
 dsimp only at hk hM hb hlv E8 E9 E10
 subst hdf
 by_cases hk13:k<13
 case neg=>
   obtain rfl:k=13:=by omega
   rw[hM]
   simp(disch:=omega)only[wk,tupled,↓reduceIte,reduceEqDiff,reduceEq,reduceAdd,reduceCtorEq,E0,E2,E8,E9,E10,pj]
   rfl
 obtain⟨kf,hkf⟩:∃kf,13-k=kf+1:=⟨12-k,by omega⟩
 rw[hkf,leafM]at hM
 by_cases h1:1<=b
 case neg=>
   rw[if_neg (fun h=>h1 h.1)]at hM
   rw[hM]
   have h1':b<1:=by omega
   simp(disch:=omega)only[wk,tupled,↓reduceIte,reduceEqDiff,reduceEq,reduceAdd,reduceCtorEq,E0,E2,E8,E9,E10,h1',pj]
   done
 have h1':¬b<1:=by omega
 by_cases h2:b<((W.length/64:Nat):Int)
 case neg=>
   rw[if_neg (fun h=>h2 h.2)]at hM
   rw[hM]
   have h2':(W.length:Int)/64<=b:=by omega
   simp(disch:=omega)only[wk,tupled,↓reduceIte,reduceEqDiff,reduceEq,reduceAdd,reduceCtorEq,E0,E2,E8,E9,E10,h1',h2',pj]
   done
 rw[if_pos ⟨h1,h2⟩]at hM
 have h2':¬(W.length:Int)/64<=b:=by omega
 obtain⟨bn,rfl⟩:∃bn:Nat,b=((bn:Nat):Int):=⟨b.toNat,by omega⟩
 have hbn:64*bn+64<=W.length:=by omega
 have hbx:=fun H=>rat_px hbn hW H
 obtain⟨c1,c2,c3⟩:=cutW (blkW_len hbn) (fun x hx=>hu x (blkW_mem hx))
 rw[c1]at hbx
 rw[Int.toNat_natCast]at hM
 generalize hdW (blkW W bn)=h at*
 generalize psW (blkW W bn)=ps at*
 have wr:wordsA h ps []++encs u64A (W.drop (64*bn+64))=wordsA h ps (encs u64A (W.drop (64*bn+64))):=by
   unfold wordsA
   rw[List.append_nil,List.append_assoc]
 rw[wr]at hbx
 have hcr:=hf_u64A (W.drop (64*bn+64))
 generalize encs u64A (W.drop (64*bn+64))=rest at*
 have of:=fun H=>refof_words h c3 ps c2 rest .ro H hcr
 have cd:=fun H=>refchild_words h c3 ps c2 rest .ro key H hcr
 have g0:∀L:List AObj,(H++L)[H.length]? =L[0]? :=fun L=>by rw[List.getElem?_append_right (Nat.le_refl _),Nat.sub_self]
 have gs:∀(L:List AObj) (o:AObj),(H++L).set H.length o=H++L.set 0 o:=fun L o=>by rw[List.set_append_right _ _ (Nat.le_refl _),Nat.sub_self]
 by_cases hok:h.ok
 case neg=>
   rw[if_neg (fun g=>hok g.1)]at hM
   rw[hM]
   simp only[hok,if_false]at of
   rw[nd0_av]at of
   simp(disch:=omega)only[wk,tupled,↓reduceIte,reduceEqDiff,reduceEq,reduceAdd,reduceCtorEq,E0,E2,E8,E9,E10,h1',h2',hbx,of,g0,gs,pj,runG_un]
   done
 simp only[hok,if_true,true_and]at of hM
 have ok1:=hok.1
 have ok2:=hok.2.1
 unfold Nd.av Nd.cells ndOf at of
 have cs:¬h.m=nmark->chkE h ps=0->1<=childL key h.f (rdL h.f ps)/\childL key h.f (rdL h.f ps)<=2047:=by
   intro hm hck
   have hf:blockI h.f:=by have:=hok.2.2.2.1;rwa[if_neg hm]at this
   have ha:mayAll (h.m-nmark) h.l (rdL h.f ps):=by
     unfold chkE at hck
     split at hck
     . rename_i g;exact g.2
     . cases hck
   exact childL_small (by omega) key _ _ hf ha
 by_cases hl:lv<0∨h.m-nmark=lv
 case neg=>
   rw[if_neg hl]at hM
   rw[hM]
   have l1:0<=lv:=by omega
   have l2:¬h.m-nmark=lv:=fun g=>hl (.inr g)
   simp(disch:=omega)only[wk,tupled,↓reduceIte,reduceEqDiff,reduceEq,reduceAdd,reduceCtorEq,E0,E2,E8,E9,E10,h1',h2',hbx,of,g0,gs,l1,l2,pj,runG_un]
   done
 rw[if_pos hl]at hM
 by_cases l0:lv<0
 . have l1:¬0<=lv:=by omega
   by_cases hm:h.m=nmark
   . have hz:h.m-nmark=0:=by omega
     rw[if_pos hm]at hM
     rw[hM]
     have pb:∀H,purify (some (.ret (.tup [.int .i64 ((bn:Nat):Int),.int .i64 0]),H))=some (.plain (leafT (some ((bn:Nat):Int)))):=fun H=>rfl
     simp(disch:=omega)only[wk,tupled,↓reduceIte,reduceEqDiff,reduceEq,reduceAdd,reduceCtorEq,E0,E2,E8,E9,E10,h1',h2',hbx,of,g0,gs,l1,hz,runG_un,pb]
     done
   have hz:¬h.m-nmark=0:=by omega
   rw[if_neg hm]at hM
   simp only[childR,hok,hm,if_true,if_false]at cd
   by_cases hck:chkE h ps=0
   case neg=>
     rw[if_neg hck]at hM
     rw[hM]
     simp only[hck,if_false]at cd
     simp(disch:=omega)only[wk,tupled,↓reduceIte,reduceEqDiff,reduceEq,reduceAdd,reduceCtorEq,E0,E2,E8,E9,E10,h1',h2',hbx,of,g0,gs,l1,hz,runG_un,cd,pj]
     done
   rw[if_pos hck]at hM
   simp only[hck,if_true]at cd
   obtain⟨q1,q2⟩:=cs hm hck
   simp(disch:=omega)only[wk,tupled,↓reduceIte,reduceEqDiff,reduceEq,reduceAdd,reduceCtorEq,E0,E2,E8,E9,E10,h1',h2',hbx,of,g0,gs,l1,hz,runG_un,cd]
   refine ih (k+1,childL key h.f (rdL h.f ps),h.m-nmark-1) _ _ _ (by simp only;omega) ?_
   exact⟨by dsimp only;omega,by dsimp only;rw[show 13-(k+1)=kf by omega];exact hM,⟨by dsimp only;omega,by dsimp only;omega⟩,⟨by dsimp only;omega,by dsimp only;omega⟩,by simp only[en,↓reduceIte,reduceEqDiff,E0],by simp only[en,↓reduceIte,reduceEqDiff,E2],by simp only[en,↓reduceIte,reduceEqDiff],by simp only[en,↓reduceIte,reduceEqDiff],by simp only[en,↓reduceIte,reduceEqDiff],rfl⟩
 . have l2:h.m-nmark=lv:=hl.resolve_left l0
   have l1:0<=lv:=by omega
   by_cases hm:h.m=nmark
   . have hz:h.m-nmark=0:=by omega
     rw[if_pos hm]at hM
     rw[hM]
     have pb:∀H,purify (some (.ret (.tup [.int .i64 ((bn:Nat):Int),.int .i64 0]),H))=some (.plain (leafT (some ((bn:Nat):Int)))):=fun H=>rfl
     simp(disch:=omega)only[wk,tupled,↓reduceIte,reduceEqDiff,reduceEq,reduceAdd,reduceCtorEq,E0,E2,E8,E9,E10,h1',h2',hbx,of,g0,gs,l1,l2,hz,runG_un,pb]
     done
   have hz:¬h.m-nmark=0:=by omega
   rw[if_neg hm]at hM
   simp only[childR,hok,hm,if_true,if_false]at cd
   by_cases hck:chkE h ps=0
   case neg=>
     rw[if_neg hck]at hM
     rw[hM]
     simp only[hck,if_false]at cd
     simp(disch:=omega)only[wk,tupled,↓reduceIte,reduceEqDiff,reduceEq,reduceAdd,reduceCtorEq,E0,E2,E8,E9,E10,h1',h2',hbx,of,g0,gs,l1,l2,hz,runG_un,cd,pj]
     done
   rw[if_pos hck]at hM
   simp only[hck,if_true]at cd
   obtain⟨q1,q2⟩:=cs hm hck
   simp(disch:=omega)only[wk,tupled,↓reduceIte,reduceEqDiff,reduceEq,reduceAdd,reduceCtorEq,E0,E2,E8,E9,E10,h1',h2',hbx,of,g0,gs,l1,l2,hz,runG_un,cd]
   refine ih (k+1,childL key h.f (rdL h.f ps),h.m-nmark-1) _ _ _ (by simp only;omega) ?_
   exact⟨by dsimp only;omega,by dsimp only;rw[show 13-(k+1)=kf by omega];exact hM,⟨by dsimp only;omega,by dsimp only;omega⟩,⟨by dsimp only;omega,by dsimp only;omega⟩,by simp only[en,↓reduceIte,reduceEqDiff,E0],by simp only[en,↓reduceIte,reduceEqDiff,E2],by simp only[en,↓reduceIte,reduceEqDiff],by simp only[en,↓reduceIte,reduceEqDiff,l2],by simp only[en,↓reduceIte,reduceEqDiff],rfl⟩
end Go.Proofs.YtogbblcnfcfflaaGreat
namespace Go.Proofs.YtogbblcnfcfflaaGreat
open Go Go.Am
def tabB:FuncId->Option AFun
 |59=>some c59
 |98=>some c98
 |_=>none
theorem tabB_ok:TabOk Tryz.prog tabB:=by
 intro f fi h
 unfold tabB at h
 split at h
 . cases h;exact tk0 Tryz.func59 c59_ok
 . cases h;exact tk0 Tryz.func98 c98_ok
 . cases h
theorem con_msl {P:Program} {tb:FuncId->Option AFun} (htb:TabOk P tb) {f:FuncId} {sz id off n off' m:Nat} {rest:List AV} (hs:∀x∈rest,x.scal=true) {H':Heap}
   (h:(cbL tb).ic f (.msl sz id off n::rest) (List.replicate (id+1) .dead)=some (.ret (.msl sz id off' m),H')) (V:View) (W:World) (us:Array Value) (hi:∀p v,V.imm p=some v->W.cell? p=some v/\v.oneCell'=true)
   (hr:RepL V (.msl sz id off n::rest) us.toList):(callFunc f us).run P W= .ok (.enter f us) W/\CallsIn (Fk none) 0 P f us W (PcPost V W (.plain (.msl sz id off' m))):=by
 obtain⟨k,hk⟩:=cbL_ic.1 h
 obtain⟨V0,hV0⟩:∃V0:View,V0=⟨V.imm,fun i=>if i=id then V.loc id else none⟩:=⟨_,rfl⟩
 have l0:V0.loc id=V.loc id:=by rw[hV0];exact if_pos rfl
 have b0:blkOf V0 id=blkOf V id:=by unfold blkOf;rw[l0]
 have gd:∀(i:Nat) (o:AObj),(List.replicate (id+1) AObj.dead)[i]? =some o->o= .dead:=by
   intro i o ho
   rw[List.getElem?_replicate]at ho
   split at ho
   . cases ho;rfl
   . cases ho
 have hW:WR P W V0 (List.replicate (id+1) .dead) W:=by
   have he:=wr_empty (P:=P) (W:=W) (V:=V) hi
   refine⟨he.below,by rw[hV0];exact hi,fun i o ho=> ?_,fun i i' o o' b ho _ hl=> ?_,fun i hi'=> ?_⟩
   . rw[gd i o ho];trivial
   . rw[gd i o ho]at hl;cases hl
   . rw[List.length_replicate]at hi'
     rw[hV0]
     exact if_neg (by omega)
 have hm:=hr.2 0
 have hr':RepL V0 (.msl sz id off n::rest) us.toList:=⟨hr.1,fun i x v hx hv=>by
   cases i with
   | zero=>
     cases hx
     cases hr.2 0 _ v rfl hv with
     |msl hl hnc=>exact .msl (by rw[b0];exact hl) hnc
   |succ i=>exact scal_rep (hr.2 (i+1) x v hx hv) (hs x (List.mem_of_getElem? (by simpa using hx))) V0⟩
 have hloc:∃l,V.loc id=some l:=by
   have hlen:=hr.1
   rw[List.length_cons]at hlen
   have h0:0<us.toList.length:=by omega
   have h1:=hr.2 0 _ us.toList[0] rfl (List.getElem?_eq_getElem h0)
   generalize us.toList[0]=u0 at h1
   cases h1 with
   | msl hl hnc=>
     unfold blkOf at hl
     cases hv:V.loc id with
     |none=>rw[hv]at hl;cases hl
     |some l=>exact⟨l,rfl⟩
 obtain⟨l,hl⟩:=hloc
 obtain⟨k1,k2⟩:=(cbs_ok htb k).ic _ _ _ _ _ hk W V0 W us hW hr'
 refine⟨k1,k2.mono ?_⟩
 rintro e W' ⟨V',g1,g2,g3⟩
 cases e with
 |panicked _=>exact g3.elim
 |outgrown=>exact g3.elim
 | returned u=>
   have gi:V'.loc id=some l:=g1.le.loc _ _ (by rw[l0];exact hl)
   refine⟨V'.imm,g2.below,g2.imm,fun p v hp=>g1.le.imm p v (by rw[hV0];exact hp),fun p v hp=> ?_, ?_⟩
   . have:=g1.new p v hp
     rw[hV0]at this
     exact this
   . have g3:Rep V' (.msl sz id off' m) u:=g3
     cases g3 with
     | msl hb hnc=>
       refine .msl ?_ hnc
       unfold blkOf at hb ⊢
       rw[gi]at hb
       have e:(⟨V'.imm,V.loc⟩:View).loc id=some l:=hl
       rw[e]
       exact hb
theorem piece_msl (id off n:Nat) (a m:Int) (H:Heap) (h:0<=a/\0<m/\a+m<=n/\n<=1000000):∃H',(cbL tabB).ic 98 [.msl 1 id off n,.int .i64 a,.int .i64 m] H=some (.ret (.msl 1 id (off+a.toNat) m.toNat),H'):=by
 have key:∃o H',(cbL tabB).ic 98 [.msl 1 id off n,.int .i64 a,.int .i64 m] H=some (o,H')/\o= .ret (.msl 1 id (off+a.toNat) m.toNat):=by
   refine ic_wp (fi:=c98) rfl (by simp[pcOn,c98,hfL,AV.hf,lend,unown]) (by simp[c98]) (by decide) ?_
   unfold c98
   obtain⟨h1,h2,h3,h4⟩:=h
   have h5:0<=a+m:=by omega
   have h6:(a+m).toNat-a.toNat=m.toNat:=by omega
   simp(disch:=omega)only[wk,tupled,↓reduceIte,reduceEqDiff,reduceEq,reduceAdd,reduceCtorEq,h1,h5,h6]
 obtain⟨o,H',h1,rfl⟩:=key
 exact⟨H',h1⟩
theorem piece_none (id off n:Nat) (a m:AV) (H:Heap):pcx (cbL tabB) 98 [.msl 1 id off n,a,m] H=none:=
 pcx_none rfl (pc_none (fi:=c98) rfl (by simp[pcOn,c98,hfL,AV.hf,lend,unown]))
theorem con_sl {P:Program} {tb:FuncId->Option AFun} (htb:TabOk P tb) {f:FuncId} {n a m:Nat} {cs:List AV} {tk:Tk} {rest:List AV} (hs:∀x∈rest,x.scal=true) (hn:0<n) (hm:a+m<=n) (hcs:n<=cs.length)
   (h:∀off,∃H',(cbL tb).ic f (.msl 1 0 off n::rest) [.dead]=some (.ret (.msl 1 0 (off+a) m),H')) (V:View) (W:World) (us:Array Value) (hi:∀p v,V.imm p=some v->W.cell? p=some v/\v.oneCell'=true)
   (hr:RepL V (.sl 1 n cs tk::rest) us.toList):(callFunc f us).run P W= .ok (.enter f us) W/\CallsIn (Fk none) 0 P f us W (PcPost V W (.plain (.sl 1 m ((cs.take (a+m)).drop a) .ro))):=by
 have hlen:=hr.1
 rw[List.length_cons]at hlen
 have h0:0<us.toList.length:=by omega
 have hu0:=List.getElem?_eq_getElem h0
 have h1:=hr.2 0 _ us.toList[0] rfl hu0
 obtain⟨b,o,cap,g,hv,e1,e2,e3,e4,e5⟩:∃(b o cap:Nat) (g:Nat->Value),us.toList[0]= .slice (some ⟨b,o,none⟩) n cap/\n*1<=cs.length/\cs.length<=cap*1/\n<=cap/\(∀i,i<cs.length->V.imm ⟨b,o+i,none⟩=some (g i))/\∀(i:Nat) (x:AV),cs[i]? =some x->Rep V x (g i):=by
   rcases rep_sl h1 with⟨_,e,_⟩|⟨_,_,e,_⟩|h
   . omega
   . omega
   . exact h
 obtain⟨H',hic⟩:=h o
 obtain⟨k,hk⟩:=cbL_ic.1 hic
 obtain⟨V0,hV0⟩:∃V0:View,V0=⟨V.imm,fun i=>if i=0 then some (.blk b)else none⟩:=⟨_,rfl⟩
 have l0:V0.loc 0=some (.blk b):=by rw[hV0];rfl
 have hW:WR P W V0 [.dead] W:=by
   have he:=wr_empty (P:=P) (W:=W) (V:=V) hi
   refine⟨he.below,by rw[hV0];exact hi,fun i o ho=> ?_,fun i i' o o' b ho _ hl=> ?_,fun i hi'=> ?_⟩
   . cases i with
     |zero=>cases ho;trivial
     |succ i=>simp at ho
   . cases i with
     |zero=>cases ho;cases hl
     |succ i=>simp at ho
   . rw[hV0]
     exact if_neg (by simp at hi';omega)
 have hr':RepL V0 (.msl 1 0 o n::rest) us.toList:=⟨hr.1,fun i x v hx hv2=>by
   cases i with
   | zero=>
     cases hx
     rw[hu0]at hv2
     cases hv2
     rw[hv]
     exact .msl (by unfold blkOf;rw[l0]) e3
   |succ i=>exact scal_rep (hr.2 (i+1) x v hx hv2) (hs x (List.mem_of_getElem? (by simpa using hx))) V0⟩
 obtain⟨k1,k2⟩:=(cbs_ok htb k).ic _ _ _ _ _ hk W V0 W us hW hr'
 refine⟨k1,k2.mono ?_⟩
 rintro e W' ⟨V',g1,g2,g3⟩
 cases e with
 |panicked _=>exact g3.elim
 |outgrown=>exact g3.elim
 | returned u=>
   have gi:V'.loc 0=some (.blk b):=g1.le.loc _ _ l0
   have him:∀p v,V.imm p=some v->V'.imm p=some v:=fun p v hp=>g1.le.imm p v (by rw[hV0];exact hp)
   refine⟨V'.imm,g2.below,g2.imm,him,fun p v hp=> ?_, ?_⟩
   . have:=g1.new p v hp
     rw[hV0]at this
     exact this
   . have g3:Rep V' (.msl 1 0 (o+a) m) u:=g3
     cases g3 with
     | msl hb hnc=>
       unfold blkOf at hb
       rw[gi]at hb
       cases hb
       have hl:((cs.take (a+m)).drop a).length=m:=by rw[List.length_drop,List.length_take];omega
       have hg:∀(i:Nat) (x:AV),((cs.take (a+m)).drop a)[i]? =some x->i<m/\cs[a+i]? =some x:=by
         intro i x hx
         rw[List.getElem?_drop,List.getElem?_take]at hx
         split at hx
         . exact⟨by omega,hx⟩
         . cases hx
       refine .sl (fun i=>g (a+i)) (by rw[hl];omega) (by rw[hl];omega) hnc (fun i hi2=> ?_) (fun i x hx=> ?_) (.inl rfl)
       . rw[hl]at hi2
         have:=him _ _ (e4 (a+i) (by omega))
         rw[<-Nat.add_assoc]at this
         exact this
       . exact(e5 (a+i) x (hg i x hx).2).mono (V':=⟨V'.imm,V.loc⟩) ⟨him,fun _ _ h=>h⟩
theorem conPc_ok:ConOk Tryz.prog 98 conPc:=by
 intro args r hg V W us hi hr
 unfold conPc at hg
 split at hg
 . split at hg
   . rename_i id off n a m hc
     cases hg
     obtain⟨H',h⟩:=piece_msl id off n a m (List.replicate (id+1) .dead) hc
     exact con_msl tabB_ok (by simp[AV.scal]) h V W us hi hr
   . cases hg
 . split at hg
   . rename_i n cs a m hc
     cases hg
     obtain⟨h1,h2,h3,h4,h5⟩:=hc
     rw[show(a+m).toNat=a.toNat+m.toNat from by omega]
     exact con_sl tabB_ok (by simp[AV.scal]) (by omega) (by omega) h5 (fun off=>piece_msl 0 off n a m [.dead] ⟨h1,h2,h3,h4⟩) V W us hi hr
   . cases hg
 . split at hg
   . rename_i n cs g a m hc
     cases hg
     obtain⟨h1,h2,h3,h4,h5⟩:=hc
     rw[show(a+m).toNat=a.toNat+m.toNat from by omega]
     exact con_sl tabB_ok (by simp[AV.scal]) (by omega) (by omega) h5 (fun off=>piece_msl 0 off n a m [.dead] ⟨h1,h2,h3,h4⟩) V W us hi hr
   . cases hg
 . cases hg
theorem block_msl (id off n:Nat) (b:Int) (H:Heap) (h:0<=b*64/\b*64+64<=n/\n<=1000000):∃H',(cbL tabB).ic 59 [.msl 1 id off n,.int .i64 b] H=some (.ret (.msl 1 id (off+(b*64).toNat) 64),H'):=by
 have key:∃o H',(cbL tabB).ic 59 [.msl 1 id off n,.int .i64 b] H=some (o,H')/\o= .ret (.msl 1 id (off+(b*64).toNat) 64):=by
   refine ic_wp (fi:=c59) rfl (by simp[pcOn,c59,hfL,AV.hf,lend,unown]) (by simp[c59]) (by decide) ?_
   unfold c59
   obtain⟨h1,h2,h3⟩:=h
   obtain⟨H1,hp⟩:=piece_msl id off n (b*64) 64 H ⟨h1,by omega,h2,h3⟩
   have hn:=fun a m H=>piece_none id off n a m H
   have hl:(cbL tabB).lent 98=false:=rfl
   have t64:Int.toNat 64=64:=rfl
   simp(disch:=omega)only[wk,tupled,↓reduceIte,reduceEqDiff,reduceEq,reduceAdd,reduceCtorEq,hn,runE_none hl,hp,t64]
 obtain⟨o,H',h1,rfl⟩:=key
 exact⟨H',h1⟩
theorem conBlk_ok:ConOk Tryz.prog 59 conBlk:=by
 intro args r hg V W us hi hr
 unfold conBlk at hg
 split at hg
 case h_2=>cases hg
 rename_i x b
 split at hg
 case isFalse=>cases hg
 rename_i hb
 unfold conPc at hg
 split at hg
 . rename_i id off n a m heq
   cases heq
   split at hg
   . rename_i hc
     cases hg
     obtain⟨H',h⟩:=block_msl id off n b (List.replicate (id+1) .dead) ⟨hc.1,hc.2.2.1,hc.2.2.2⟩
     exact con_msl tabB_ok (by simp[AV.scal]) h V W us hi hr
   . cases hg
 . rename_i n cs a m heq
   cases heq
   split at hg
   . rename_i hc
     cases hg
     obtain⟨h1,h2,h3,h4,h5⟩:=hc
     rw[show(b*64+64).toNat=(b*64).toNat+64 from by omega]
     exact con_sl tabB_ok (by simp[AV.scal]) (by omega) (by omega) h5 (fun off=>block_msl 0 off n b [.dead] ⟨h1,h3,h4⟩) V W us hi hr
   . cases hg
 . rename_i n cs g a m heq
   cases heq
   split at hg
   . rename_i hc
     cases hg
     obtain⟨h1,h2,h3,h4,h5⟩:=hc
     rw[show(b*64+64).toNat=(b*64).toNat+64 from by omega]
     exact con_sl tabB_ok (by simp[AV.scal]) (by omega) (by omega) h5 (fun off=>block_msl 0 off n b [.dead] ⟨h1,h3,h4⟩) V W us hi hr
   . cases hg
 . cases hg
end Go.Proofs.YtogbblcnfcfflaaGreat
