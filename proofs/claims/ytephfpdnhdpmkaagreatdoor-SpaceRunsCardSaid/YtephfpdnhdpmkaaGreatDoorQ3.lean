/- TEXTS OF THE WALKS, put together: SQ0 SQ1 SQ2 SQ3 LU SQ4 SQ5 SQ6 SQ7 LRu. No condition but those stated. -/
import Derived.Test.YtephfpdnhdpmkaaGreatDoorQ2
import Derived.Test.YtephfpdnhdpmkaaGreatDoorAmOpen
open Int (reduceEq)
open Nat (reduceEqDiff reduceAdd reduceMul reduceLT reduceLeDiff)
set_option linter.all false
set_option maxHeartbeats 8000000
set_option maxRecDepth 1000000
namespace Go.Proofs.YtephfpdnhdpmkaaGreatDoor
open Go Go.Am Go.Spc
theorem stepR_new {out:List Rn} {b:Int} (h:∀x,out.getLast? =some x->x.a+x.m≠b):stepR out b=out++[⟨b,1⟩]:=by
 unfold stepR
 cases hl:out.getLast? with
 |none=>rfl
 |some x=>exact if_neg (h x hl)
theorem stepR_old {out:List Rn} {x:Rn} {b:Int} (h:x.a+x.m=b):stepR (out++[x]) b=out++[⟨x.a,x.m+1⟩]:=by
 unfold stepR
 rw[List.getLast?_append]
 simp[h]
theorem fold_rng:∀(k:Nat) (out:List Rn) (e:Int),Endd out e->(rngM (fun _=>true) e k).foldl stepR out=out++(if 0<k then [⟨e,(k:Int)⟩] else [])
 |0,out,e,_=>by simp[rngM]
 | k+1,out,e,h=>by
   have ih:=fold_rng k out e h
   rw[rngM_snoc,if_pos rfl,List.foldl_append,ih]
   simp only[List.foldl_cons,List.foldl_nil]
   rw[if_pos (Nat.succ_pos k)]
   by_cases hk:0<k
   . rw[if_pos hk,stepR_old (by rfl)]
     simp
   . have:k=0:=by omega
     subst this
     rw[if_neg (by decide),List.append_nil,stepR_new fun x hx=>by have:=h x hx;simp;omega]
     simp
theorem rngM_add (P:Int->Bool):∀(k m:Nat) (a:Int),rngM P a (k+m)=rngM P a k++rngM P (a+k) m
 |0,m,a=>by simp[rngM]
 | k+1,m,a=>by
   rw[show k+1+m=(k+m)+1 by omega,rngM,rngM,rngM_add P k m (a+1),show a+1+(k:Int)=a+((k+1:Nat):Int)by omega]
   split<;>simp
theorem runs_gaps:∀(bl:List Int) (out:List Rn) (d:Int) (k:Nat),bl.Pairwise (· < ·)->(∀x∈bl,d<=x/\x<d+k)->Endd out d→
   (rngM (fun b=> !decide (b∈bl)) d k).foldl stepR out=out++gapM d (bl++[d+k])
 | [],out,d,k,_,_,h=>by
   have e:rngM (fun b=> !decide (b∈([]:List Int))) d k=rngM (fun _=>true) d k:=rngM_congr _ _ fun x _ _=>by simp
   rw[e,fold_rng k out d h]
   simp only[List.nil_append,gapM]
   by_cases hk:0<k
   . rw[if_pos hk,if_pos (by omega),show d+(k:Int)-d=k by omega]
   . rw[if_neg hk,if_neg (by omega)]
 | b::r,out,d,k,hs,hr,h=>by
   obtain⟨b1,b2⟩:=hr b (List.mem_cons_self ..)
   obtain⟨s1,s2⟩:=List.pairwise_cons.1 hs
   obtain⟨j,hj⟩:=Int.eq_ofNat_of_zero_le (show 0<=b-d by omega)
   obtain⟨q,hq⟩:∃q,k=j+(q+1):=⟨k-j-1,by omega⟩
   have e1:rngM (fun x=> !decide (x∈b::r)) d j=rngM (fun _=>true) d j:=rngM_congr _ _ fun x h1 h2=>by
     have:¬x∈b::r:=fun hm=>by
       rcases List.mem_cons.1 hm with rfl|hm
       . omega
       . have:=s1 x hm;omega
     rw[decide_eq_false this];rfl
   have e2:rngM (fun x=> !decide (x∈b::r)) (d+j) (q+1)=rngM (fun x=> !decide (x∈r)) (b+1) q:=by
     rw[rngM,show d+(j:Int)=b by omega,decide_eq_true (List.mem_cons_self ..)]
     rw[if_neg (by decide)]
     exact rngM_congr _ _ fun x h1 h2=>by
       by_cases hm:x∈r
       . rw[decide_eq_true hm,decide_eq_true (List.mem_cons_of_mem _ hm)]
       . rw[decide_eq_false hm,decide_eq_false]
         intro h3
         rcases List.mem_cons.1 h3 with rfl|h3
         . omega
         . exact hm h3
   rw[hq,rngM_add,e1,e2,List.foldl_append,fold_rng j out d h]
   have ih:=runs_gaps r (out++(if 0<j then [⟨d,(j:Int)⟩] else [])) (b+1) q s2 (fun x hx=>by have:=s1 x hx;have:=hr x (List.mem_cons_of_mem _ hx);omega) (fun x hx=>by
     by_cases h0:0<j
     . rw[if_pos h0,List.getLast?_append]at hx
       simp at hx
       rw[<-hx];simp;omega
     . rw[if_neg h0,List.append_nil]at hx
       have:=h x hx;omega)
   rw[ih]
   simp only[List.cons_append,gapM]
   rw[show d+((j+(q+1):Nat):Int)=b+1+(q:Int)by omega]
   by_cases h0:0<j
   . rw[if_pos h0,if_pos (by omega),show b-d=(j:Int)by omega];simp
   . rw[if_neg h0,if_neg (by omega)];simp
end Go.Proofs.YtephfpdnhdpmkaaGreatDoor
namespace Go.Proofs.YtephfpdnhdpmkaaGreatDoor
open Go Go.Am Go.Spc Go.Rec
theorem lenR (l:List Rn):(encs rnA l).length=l.length*2:=encs_length l
theorem hf_rnA (x:Rn):hfL (rnA x)=true:=rfl
theorem oneR:∀l:List Rn,allOne (encs rnA l)=true
 |[]=>rfl
 |x::l=>by rw[encs_cons,allOne_append,oneR l];rfl
def RunR (l:List Rn) (v:AV):Prop:=∃s tk,v= .sl s l.length (encs rnA l) tk/\(l≠[]->s=2)/\tk.hf=true
def RowR (G:Heap) (v:AV) (l:List Rn):Prop:=(v= .sl 0 0 [] .z/\l=[])∨(l≠[]/\∃id,v= .rsl 2 id l.length/\G[id]? =some (.cells (encs rnA l)))
theorem appR_run {H:Heap} {v:AV} {l:List Rn} (h:RowR H v l) (hn:l.length<=100000) (x:Rn):
   ∃id H',appR 2 16 v (.sl 2 1 (rnA x) .ro) H=some (.val (.rsl 2 id (l.length+1)),H')/\H'[id]? =some (.cells (encs rnA (l++[x]))):=by
 have e1:(rnA x).length=2:=rfl
 have e2:allOne (rnA x)=true:=rfl
 have e3:(rnA x).take 2=rnA x:=rfl
 rcases h with⟨rfl,rfl⟩|⟨hne,id,rfl,hid⟩
 . refine⟨H.length,H++[.cells (rnA x)], ?_,by simp[encs]⟩
   simp[appR,Tk.empty,e1,e2,e3]
 . refine⟨H.length,H.set id .dead++[.cells (encs rnA l++rnA x)], ?_, ?_⟩
   . have h1:(l.length+1)*16<=70368744177664:=by omega
     have h2:l.length+1<=70368744177664:=by omega
     simp[appR,e1,e2,e3,hid,lenR,oneR,h1,h2]
   . rw[encs_append]
     have:(H.set id .dead).length=H.length:=by simp
     rw[List.getElem?_append_right (by omega),this,Nat.sub_self]
     simp[encs]
theorem rn_drop (pre:List Rn) (x:Rn) (r:List Rn):List.drop (pre.length*2) (encs rnA (pre++x::r))= .int .i64 x.a:: .int .i64 x.m::encs rnA r:=by
 rw[drop_pre,encs_cons];rfl
theorem rn_get (pre:List Rn) (x:Rn) (j:Nat) (hj:j<2):(encs rnA (pre++[x]))[pre.length*2+j]? =(rnA x)[j]? :=by
 rw[encs_append,List.getElem?_append_right (by rw[lenR];omega),lenR,Nat.add_sub_cancel_left]
 show(rnA x++[])[j]? =_
 rw[List.append_nil]
theorem rn_set (pre:List Rn) (x:Rn) (m:Int):List.take (pre.length*2+1) (encs rnA (pre++[x]))++[.int .i64 m]++List.drop (pre.length*2+1+1) (encs rnA (pre++[x]))=encs rnA (pre++[⟨x.a,m⟩]):=by
 rw[encs_append,encs_append]
 have:encs rnA [x]=[.int .i64 x.a,.int .i64 x.m]:=rfl
 rw[this,List.take_append,List.drop_append,lenR,List.take_of_length_le (by rw[lenR];omega),List.drop_of_length_le (by rw[lenR];omega),Nat.add_sub_cancel_left,show pre.length*2+1+1-pre.length*2=2 by omega]
 simp
 rfl
def runsD (l:List Int):List Rn:=l.foldl stepR []
theorem purD_run {G:Heap} {v:AV} {l:List Rn} (h:RowR G v l):∃w,RunR l w/\purD (some (.ret v,G))=some (.plain w):=by
 rcases h with⟨rfl,rfl⟩|⟨hne,id,rfl,hid⟩
 . exact⟨.sl 0 0 [] .z,⟨0,.z,rfl,fun h=>absurd rfl h,rfl⟩,rfl⟩
 . refine⟨.sl 2 l.length (encs rnA l) .ro,⟨2,.ro,rfl,fun _=>rfl,rfl⟩, ?_⟩
   have hk:(encs rnA l).map (lendK G 3)=encs rnA l:=by
     clear hid hne
     induction l with
     |nil=>rfl
     |cons x l ih=>rw[encs_cons,List.map_append,ih];rfl
   have hu:(encs rnA l).map unown=encs rnA l:=by
     clear hid hne hk
     induction l with
     |nil=>rfl
     |cons x l ih=>rw[encs_cons,List.map_append,ih];rfl
   have hlt:id<G.length:=(List.getElem?_eq_some_iff.1 hid).1
   have e1:lendK G 4 (.rsl 2 id l.length)= .sl 2 l.length (encs rnA l) .ro:=by
     show(match G[id]? with|some (.cells cs)=>if l.length*2<=cs.length then AV.sl 2 l.length ((cs.take (l.length*2)).map (lendK G 3)) .ro else .rsl 2 id l.length|_=> .rsl 2 id l.length)=_
     rw[hid]
     simp only[lenR,Nat.le_refl,if_true]
     rw[List.take_of_length_le (by rw[lenR];exact Nat.le_refl _),hk]
   have e2:picV G (.rsl 2 id l.length)= .sl 2 l.length (encs rnA l) .ro:=by
     show deepA (lendK G 4 _)=_
     rw[e1]
     show AV.sl 2 l.length ((encs rnA l).map unown) .ro=_
     rw[hu]
   simp only[purD,e2]
   rw[if_pos]
   simp[AV.hf,hfL_encs hf_rnA,Tk.hf]
theorem lastR {pre:List Rn} {z:Rn}:(pre++[z]).getLast? =some z:=by simp
theorem stepR_bd {out:List Rn} {b N:Int} (h:∀x∈out,0<=x.a/\0<=x.m/\x.a+x.m<=N) (h0:0<=b) (h1:b<N):∀x∈stepR out b,0<=x.a/\0<=x.m/\x.a+x.m<=N:=by
 intro x hx
 unfold stepR at hx
 split at hx
 . rename_i y hy
   have my:=List.mem_of_getLast? hy
   have hb:=h y my
   split at hx
   . rcases List.mem_append.1 hx with hx|hx
     . exact h x (List.dropLast_subset _ hx)
     . rw[List.mem_singleton.1 hx];dsimp only;omega
   . rcases List.mem_append.1 hx with hx|hx
     . exact h x hx
     . rw[List.mem_singleton.1 hx];dsimp only;omega
 . rcases List.mem_append.1 hx with hx|hx
   . exact h x hx
   . rw[List.mem_singleton.1 hx];dsimp only;omega
theorem stepR_len (out:List Rn) (b:Int):(stepR out b).length<=out.length+1:=by
 unfold stepR
 split
 . split<;>simp<;>omega
 . simp
theorem rRuns_px {f:Frm} {rt:Tv} {ns bl rl:List Int} {bv rv:AV} (I:Img f rt ns bl rl bv rv):∃w,RunR (runsD (rngM (fun b=> !decide (b∈bl)) (dF f) (f.b-dF f).toNat)) w/\∀H,
   pcx (cbL tab) 11 [.agg (imgC f (mkT rt ns) bv rv)] H=some (.plain w):=by
 have rf:=fun H=>rFree_px I H
 have hon:pcOn c11 [.agg (imgC f (mkT rt ns) bv rv)]=true:=by
   simp only[pcOn,List.map_cons,List.map_nil,I.lend,c11]
   exact I.hf
 have o1:=I.b.one
 have o2:=I.r.one
 have li:=I.lend
 have hf:=I.fo
 unfold okF at hf
 have b64:=I.b64
 have hd:0<=dF f:=by unfold dF;omega
 have gl:=rngM_len (fun b=> !decide (b∈bl)) (f.b-dF f).toNat (dF f)
 have gg:=rngM_ge (P:=fun b=> !decide (b∈bl)) (f.b-dF f).toNat (dF f)
 generalize rngM (fun b=> !decide (b∈bl)) (dF f) (f.b-dF f).toNat=L at*
 have l64:L.length<=64:=by omega
 have hb:∀x∈L,0<=x/\x<64:=fun x hx=>by have:=gg x hx;omega
 have key:∃r,(cbL tab).pc 11 [.agg (imgC f (mkT rt ns) bv rv)]=some r/\∃w,RunR (runsD L) w/\r= .plain w:=by
   refine pc_wp6E (fi:=c11) rfl hon (by simp[c11]) (by decide) ?_
   unfold c11
   rw[List.map_cons,List.map_nil,li]
   clear hon li I
   generalize mkT rt ns=T at*
   have im:imgC f T bv rv=[.int .i64 f.b,.int .i64 f.i,.int .i64 f.r,.int .i64 f.t,.int .u64 5,.int .u64 6,.int .i64 9,.int .i64 (9+f.i/4),.int .i64 (9+f.i/4+f.r/4),.int .i64 (dF f),.sl 7 T.length (encs tvC T) .ro,bv,rv]:=rfl
   rw[im]at rf ⊢
   cases L with
   | nil=>
     have rf:∀H,pcx (cbL tab) 29 _ H=some (.plain (.sl 0 0 [] .z)):=rf
     have n1:¬((0:Nat):Int)<((0:Nat):Int):=by omega
     have n2:¬(0:Int)<((0:Nat):Int):=by omega
     simp(disch:=omega)only[wk,tupled,↓reduceIte,reduceEqDiff,reduceEq,reduceAdd,reduceCtorEq,o1,o2,rf]
     rw[ret_loop]
     simp(disch:=omega)only[wk,tupled,↓reduceIte,reduceEqDiff,reduceEq,reduceAdd,reduceCtorEq,n1,n2]
     exact⟨.plain (.sl 0 0 [] .z),rfl,.sl 0 0 [] .z,⟨0,.z,rfl,fun h=>absurd rfl h,rfl⟩,rfl⟩
   | cons x0 L=>
     rw[prRow_ne (by simp)]at rf
     generalize x0::L=L at*
     simp(disch:=omega)only[wk,tupled,↓reduceIte,reduceEqDiff,reduceEq,reduceAdd,reduceCtorEq,o1,o2,rf]
     refine loop_ind (fun(x:List Int×List Int) E df G=>L=x.1++x.2/\(∃g,E 3= .sl 1 L.length (encs i64A L) (.own g))/\E 5= .int .i64 ((x.1.length:Nat):Int)/\df=[]/\RowR G (E 4) (runsD x.1)/\(runsD x.1).length<=x.1.length/\(∀y∈runsD x.1,0<=y.a/\0<=y.m/\y.a+y.m<=64))
       (fun x=>x.2.length) ([],L) (by decide) (.inl rfl) ⟨rfl,⟨_,rfl⟩,rfl,rfl,.inl ⟨rfl,rfl⟩,Nat.le_refl _,fun y hy=>by cases hy⟩ ?_
     intro ⟨pre,suf⟩ E df G ih hP
     obtain⟨a1,⟨g,E3⟩,E5,hdf,hr,rlen,bd⟩:=hP
     dsimp only at a1 E5 hr rlen bd
     subst hdf
     have la:L.length=pre.length+suf.length:=by rw[a1,List.length_append]
     cases suf with
     | nil=>
       have n1:¬(pre.length:Int)<(L.length:Int):=by rw[la];simp
       have ep:pre=L:=by rw[a1];simp
       rw[ep]at hr
       simp(disch:=omega)only[wk,tupled,↓reduceIte,reduceEqDiff,reduceEq,reduceAdd,reduceCtorEq,E3,E5,n1]
       obtain⟨w,w1,w2⟩:=purD_run hr
       exact⟨_,w2,w,w1,rfl⟩
     | cons b r=>
       rw[List.length_cons]at la
       have n1:(pre.length:Int)<(L.length:Int):=by omega
       have d1:=i_drop pre b r
       rw[<-a1]at d1
       obtain⟨hb0,hb1⟩:=hb b (by rw[a1];simp)
       have sn:runsD (pre++[b])=stepR (runsD pre) b:=by unfold runsD;rw[List.foldl_append];rfl
       have bd2:=stepR_bd bd hb0 hb1
       have sl:=stepR_len (runsD pre) b
       rw[<-sn]at bd2 sl
       generalize runsD pre=R at*
       rcases List.eq_nil_or_concat R with rfl|⟨Q,x,rfl⟩
       . rcases hr with⟨e4,_⟩|⟨h,_⟩
         case inr=>exact absurd rfl h
         obtain⟨id,H',ap,hid⟩:=appR_run (H:=G) (v:= .sl 0 0 [] .z) (l:=[]) (.inl ⟨rfl,rfl⟩) (by simp) ⟨b,1⟩
         have ap:appR 2 16 (.sl 0 0 [] .z) (.sl 2 1 [.int .i64 b,.int .i64 1] .ro) G=some (.val (.rsl 2 id 1),H'):=ap
         have n2:¬(0:Int)<=((0:Nat):Int)-1:=by omega
         simp(disch:=omega)only[wk,tupled,↓reduceIte,reduceEqDiff,reduceEq,reduceAdd,reduceCtorEq,E3,e4,E5,n1,n2,d1,ap,Int.reduceToNat,Int.reduceAdd,Int.reduceSub,Int.reduceMul,Int.reduceNeg,Nat.reduceSub,Nat.reduceDiv,runG_un,gp_un]
         refine ih (pre++[b],r) _ _ _ (by simp) ⟨by simp[a1],⟨g,by simp only[en,↓reduceIte,reduceEqDiff,E3]⟩,by simp only[en,↓reduceIte,reduceEqDiff],rfl, ?_, ?_, ?_⟩
         . dsimp only;simp only[en,↓reduceIte,reduceEqDiff];rw[sn];exact .inr ⟨by simp[stepR],id,rfl,hid⟩
         . dsimp only;simp;simp at sl;omega
         . exact bd2
       . simp only[List.concat_eq_append]at*
         rcases hr with⟨_,h⟩|⟨_,id,e4,hid⟩
         . simp at h
         have lq:(Q++[x]).length=Q.length+1:=by simp
         rw[lq]at e4 rlen
         obtain⟨x1,x2,x3⟩:=bd x (by simp)
         have sq:(Q.length:Int)+1-1=(Q.length:Int):=by omega
         have q0:(0:Int)<=(Q.length:Int):=by omega
         have q1:(Q.length:Int)<(Q.length:Int)+1:=by omega
         have ws:IntKind.i64.wrap (x.a+x.m)=x.a+x.m:=wrap_i64 (by omega) (by omega)
         have wq:IntKind.i64.wrap ((Q.length:Int)+1-1)=(Q.length:Int):=by rw[wrap_i64 (by omega) (by omega)];omega
         have g0:(encs rnA (Q++[x]))[Q.length*2]? =some (.int .i64 x.a):=rn_get Q x 0 (by decide)
         have g1:(encs rnA (Q++[x]))[Q.length*2+1]? =some (.int .i64 x.m):=rn_get Q x 1 (by decide)
         by_cases hx:x.a+x.m=b
         . have st:=rn_set Q x (x.m+1)
           have wm:IntKind.i64.wrap (x.m+1)=x.m+1:=wrap_i64 (by omega) (by omega)
           have le:(encs rnA (Q++[x])).length=Q.length*2+2:=by rw[lenR,lq];omega
           have lb:Q.length*2+1+1<=Q.length*2+2:=by omega
           have idl:id<G.length:=(List.getElem?_eq_some_iff.1 hid).1
           have sn2:runsD (pre++[b])=Q++[⟨x.a,x.m+1⟩]:=by rw[sn,stepR_old hx]
           simp(disch:=omega)only[wk,tupled,↓reduceIte,reduceEqDiff,reduceEq,reduceAdd,reduceCtorEq,E3,e4,E5,n1,sq,wq,q0,q1,d1,hid,g0,g1,ws,hx,wm,st,le,lb,Int.reduceToNat,Int.reduceAdd,Int.reduceSub,Int.reduceMul,Int.reduceNeg,Nat.reduceSub,Nat.reduceDiv,runG_un,gp_un]
           refine ih (pre++[b],r) _ _ _ (by simp) ⟨by simp[a1],⟨g,by simp only[en,↓reduceIte,reduceEqDiff,E3]⟩,by simp only[en,↓reduceIte,reduceEqDiff],rfl, ?_, ?_, ?_⟩
           . dsimp only;simp only[en,↓reduceIte,reduceEqDiff,e4];rw[sn2]
             exact .inr ⟨by simp,id,by simp,List.getElem?_set_self idl⟩
           . dsimp only;rw[sn2];simp;omega
           . exact bd2
         . obtain⟨id2,H',ap,hid2⟩:=appR_run (H:=G) (v:= .rsl 2 id (Q++[x]).length) (l:=Q++[x]) (.inr ⟨by simp,id,rfl,hid⟩) (by simp;omega) ⟨b,1⟩
           rw[lq]at ap
           have ap:appR 2 16 (.rsl 2 id (Q.length+1)) (.sl 2 1 [.int .i64 b,.int .i64 1] .ro) G=some (.val (.rsl 2 id2 (Q.length+1+1)),H'):=ap
           have sn2:runsD (pre++[b])=Q++[x]++[⟨b,1⟩]:=by
             rw[sn,stepR_new]
             intro y hy
             rw[lastR]at hy
             cases hy;exact hx
           simp(disch:=omega)only[wk,tupled,↓reduceIte,reduceEqDiff,reduceEq,reduceAdd,reduceCtorEq,E3,e4,E5,n1,sq,wq,q0,q1,d1,hid,g0,g1,ws,hx,ap,Int.reduceToNat,Int.reduceAdd,Int.reduceSub,Int.reduceMul,Int.reduceNeg,Nat.reduceSub,Nat.reduceDiv,runG_un,gp_un]
           refine ih (pre++[b],r) _ _ _ (by simp) ⟨by simp[a1],⟨g,by simp only[en,↓reduceIte,reduceEqDiff,E3]⟩,by simp only[en,↓reduceIte,reduceEqDiff],rfl, ?_, ?_, ?_⟩
           . dsimp only;simp only[en,↓reduceIte,reduceEqDiff];rw[sn2]
             exact .inr ⟨by simp,id2,by simp,hid2⟩
           . dsimp only;rw[sn2];simp;omega
           . exact bd2
 obtain⟨r,k1,w,k2,rfl⟩:=key
 exact⟨w,k2,fun H=>pcx_N rfl k1⟩
theorem oneI:∀l:List Int,allOne (encs i64A l)=true
 |[]=>rfl
 |x::l=>by rw[encs_cons,allOne_append,oneI l];rfl
theorem cloneI0_px {s:Nat} {tk:Tk} (h:tk.hf=true):∃s' tk',(tk'= .z/\s'=0∨tk'= .e/\s'=1)/\∀H,pcx (cbL tab) 39 [.sl s 0 [] tk] H=some (.plain (.sl s' 0 [] tk')):=by
 cases hz:tk.isZ with
 | true=>
   refine⟨0,.z,.inl ⟨rfl,rfl⟩,fun H=>pcx_N rfl (pc_wp (fi:=c39) rfl ?_ (by simp[c39]) (by decide) ?_)⟩
   . simp only[pcOn,List.map_cons,List.map_nil,hfT h,c39,hfL,AV.hf,h,Bool.and_self]
   unfold c39
   rw[List.map_cons,List.map_nil,hfT h]
   simp(disch:=omega)only[wk,tupled,↓reduceIte,reduceEqDiff,reduceEq,reduceAdd,reduceCtorEq,slZ,hz,pur_z]
 | false=>
   refine⟨1,.e,.inr ⟨rfl,rfl⟩,fun H=>pcx_N rfl (pc_wp (fi:=c39) rfl ?_ (by simp[c39]) (by decide) ?_)⟩
   . simp only[pcOn,List.map_cons,List.map_nil,hfT h,c39,hfL,AV.hf,h,Bool.and_self]
   unfold c39
   rw[List.map_cons,List.map_nil,hfT h]
   simp(disch:=omega)only[wk,tupled,↓reduceIte,reduceEqDiff,reduceEq,reduceAdd,reduceCtorEq,slZ,hz,app_e (z:=1) (by decide),pur_e]
theorem cloneI_px {l:List Int} (hl:l.length<=1000) (h0:l≠[]) {tk:Tk} (h:tk.hf=true) (hz:tk≠ .z) (H:Heap):pcx (cbL tab) 39 [.sl 1 l.length (encs i64A l) tk] H=some (.fresh 1 l.length (encs i64A l)):=by
 have hh:=hfL_encs (f:=i64A) (fun _=>rfl) l
 have n0:l.length≠0:=fun e=>h0 (List.eq_nil_of_length_eq_zero e)
 have hz:tk.isZ=false:=by cases tk<;>first|rfl|exact absurd rfl hz
 refine pcx_N rfl (pc_wp (fi:=c39) rfl ?_ (by simp[c39]) (by decide) ?_)
 . simp only[pcOn,List.map_cons,List.map_nil,hfT h,c39,hfL,AV.hf,h,hh,Bool.and_self]
 unfold c39
 rw[List.map_cons,List.map_nil,hfT h]
 have own0:Own ([]:Heap) 1 (.sl 1 0 [] .e) 0 []:= .inl ⟨.inr rfl,rfl,rfl⟩
 simp(disch:=omega)only[wk,tupled,↓reduceIte,reduceEqDiff,reduceEq,reduceAdd,reduceCtorEq,slZ,hz]
 refine runX_app own0 (by omega) (by omega) (by omega) n0 (by rw[encs_length]) (oneI _) (fun H2 q1 q2 q3=> ?_)
 simp only[Nat.zero_add,List.nil_append]at q1 ⊢
 simp(disch:=omega)only[wk,tupled,↓reduceIte,reduceEqDiff,reduceEq,reduceAdd,reduceCtorEq]
 rw[<-prRow_ne (f:=i64A) (sz:=1) h0]
 exact purify_row (fun _=>rfl) q1 (fun e=>absurd e h0)
theorem cloneApp {l:List Int} {v:AV} (hv:IntR l v) (hz:l≠[]->∀s n cs,v≠ .sl s n cs .z) (hl:l.length<=1000) (x:Int):
   ((∀H,pcx (cbL tab) 39 [v] H=some (.plain (.sl 0 0 [] .z)))/\∀h G g,appG h 1 8 [] (.sl 0 0 [] .z) (.sl 1 1 [.int .i64 x] .ro) G g=some (.sl 1 (l.length+1) (encs i64A (l++[x])) (.own g),some (.tok 1)))∨
   ((∀H,pcx (cbL tab) 39 [v] H=some (.plain (.sl 1 0 [] .e)))/\∀h G g,appG h 1 8 [] (.sl 1 0 [] .e) (.sl 1 1 [.int .i64 x] .ro) G g=some (.sl 1 (l.length+1) (encs i64A (l++[x])) (.own g),some (.tok 1)))∨
   ((∀H,pcx (cbL tab) 39 [v] H=some (.fresh 1 l.length (encs i64A l)))/\∀(H:Heap) a g,appG (H.length+1) 1 8 [] (.sl 1 l.length (encs i64A l) (.own (H.length+1))) (.sl 1 1 [.int .i64 x] .ro) (H++[a]++[.tok 1]) g=some (.sl 1 (l.length+1) (encs i64A (l++[x])) (.own g),some (.tok 1))):=by
 obtain⟨s,tk,rfl,hs,ht⟩:=hv
 by_cases h0:l=[]
 . subst h0
   obtain⟨s',tk',hz',cp⟩:=cloneI0_px (s:=s) ht
   rcases hz' with⟨rfl,rfl⟩|⟨rfl,rfl⟩
   . exact .inl ⟨cp,fun h G g=>rfl⟩
   . exact .inr (.inl ⟨cp,fun h G g=>rfl⟩)
 . have:=hs h0
   subst this
   refine .inr (.inr ⟨fun H=>cloneI_px hl h0 ht (fun e=>hz h0 1 _ _ (by rw[e])) H,fun H a g=> ?_⟩)
   have hg:(H++[a]++[AObj.tok 1])[H.length+1]? =some (.tok 1):=by
     rw[List.append_assoc,List.getElem?_append_right (by omega),show H.length+1-H.length=1 by omega];rfl
   have hr:rowN 1 8 [] (.sl 1 1 [.int .i64 x] .ro)=some (1,[.int .i64 x]):=rfl
   simp only[appG,appGo,hr,hg]
   rw[if_pos ⟨Nat.le_refl _,trivial,trivial,by omega,by omega,by omega⟩,encs_append]
   rfl
theorem runs1_any {f:Frm} {rt:Tv} {ns bl rl:List Int} {bv rv:AV} (I:Img f rt ns bl rl bv rv) (hz:bl≠[]->∀s n cs,bv≠ .sl s n cs .z) (ok:okI f bl rl=true) {vb id N:Nat} {H:Heap} (J:List Rn->Heap->Prop) (Dn:Heap->Prop)
   (hN:N<=H.length) (hvH:H[vb]? =some (.cells (imgC f (mkT rt ns) bv rv)))
   (hY:∀pre x post G,gapM (dF f) (bl++[f.b])=pre++x::post->J pre G->N<=G.length->∃b G',(cbL tabR).yl id [.agg (rnA x)] G=some (.ret (.bool b),G')/\N<=G'.length/\if b=true then J (pre++[x]) G' else Dn G')
   (j0:∀L,J [] (H++L)):
   ∃G,(cbL tabR).ic 37 [.yld id,.ptr vb 0] H=some (.ret (.tup []),G)/\(J (gapM (dF f) (bl++[f.b])) G∨Dn G):=by
 have:=ic_wp (tab:=tabR) (f:=37) (fi:=c37) (args:=[.yld id,.ptr vb 0]) (H:=H) (P:=fun o G=>o= .ret (.tup [])/\(J (gapM (dF f) (bl++[f.b])) G∨Dn G)) rfl rfl (by simp[c37]) (by decide) ?_
 . obtain⟨o,G,e1,rfl,e2⟩:=this
   exact⟨G,e1,e2⟩
 have so:=fun H=>sof_px I H
 rw[ok]at so
 simp only[if_true]at so
 have hf:=I.fo
 unfold okF at hf
 have b64:=I.b64
 have o1:=I.b.one
 have o2:=I.r.one
 have ca:=cloneApp I.b hz (by have:=I.lb;omega) f.b
 have rm:=(risM_mem ((Bool.and_eq_true _ _).mp (show(risM (9+f.i/4+f.r/4+1) f.b none bl&&risM 1 (f.r+1) none rl)=true from ok)).1)
 have lb:=I.lb
 obtain⟨L,hL⟩:∃L,L=bl++[f.b]:=⟨_,rfl⟩
 have lL:L.length=bl.length+1:=by rw[hL];simp
 have hLm:∀x∈L,0<=x/\x<=64:=fun x hx=>by
   rw[hL]at hx
   rcases List.mem_append.1 hx with hx|hx
   . have:=rm.1 x hx;omega
   . rw[List.mem_singleton.1 hx];omega
 rw[<-hL]at hY ⊢
 clear I
 generalize mkT rt ns=T at*
 have im:imgC f T bv rv=[.int .i64 f.b,.int .i64 f.i,.int .i64 f.r,.int .i64 f.t,.int .u64 5,.int .u64 6,.int .i64 9,.int .i64 (9+f.i/4),.int .i64 (9+f.i/4+f.r/4),.int .i64 (dF f),.sl 7 T.length (encs tvC T) .ro,bv,rv]:=rfl
 have g0:∀L:List AObj,(H++L)[H.length]? =L[0]? :=fun L=>by rw[List.getElem?_append_right (Nat.le_refl _),Nat.sub_self]
 have t0:∀(L:List AObj) (o:AObj),(H++L).set H.length o=H++L.set 0 o:=fun L o=>by rw[List.set_append_right _ _ (Nat.le_refl _),Nat.sub_self]
 unfold c37
 rw[im]at so hvH
 rcases ca with⟨cp,ap⟩|⟨cp,ap⟩|⟨cp,ap⟩<;>have cp:=fun H=>toR (cp H)
 all_goals simp(disch:=omega)only[wk,tupled,↓reduceIte,reduceEqDiff,reduceEq,reduceAdd,reduceCtorEq,so,hvH,o1,o2,g0,t0,cp,ap,wantedE_none,Int.reduceToNat,Int.reduceAdd,Int.reduceSub,Int.reduceMul,Int.reduceNeg,Nat.reduceSub,Nat.reduceDiv]
 all_goals
   refine loop_ind (fun(x:List Int×List Int) E df G=>L=x.1++x.2/\(∃e G1,E 5= .int .i64 e/\gapM (dF f) L=G1++gapM e x.2/\J G1 G/\0<=e/\e<=65)/\N<=G.length/\E 0= .yld id/\(∃g,E 29= .sl 1 L.length (encs i64A L) (.own g))/\E 30= .int .i64 ((L.length:Nat):Int)/\E 31= .int .i64 ((x.1.length:Nat):Int)/\df=[])
     (fun x=>x.2.length) ([],L) (by decide) (.inl rfl) ⟨rfl,⟨dF f,[],rfl,rfl,by(try unfold hpush);rw[List.append_assoc];exact j0 _,by unfold dF;omega,by unfold dF;omega⟩,by(try unfold hpush);simp;omega,rfl,⟨_,by rw[lL,hL];rfl⟩,by rw[lL];rfl,rfl,rfl⟩ ?_
   intro ⟨pre,suf⟩ E df G ih hP
   obtain⟨a1,⟨e,G1,E5,gp,jG,e0,e65⟩,gN,E0,⟨g,E29⟩,E30,E31,hdf⟩:=hP
   dsimp only at a1 gp E31
   subst hdf
   have la:L.length=pre.length+suf.length:=by rw[a1,List.length_append]
   cases suf with
   | nil=>
     have n1:¬(pre.length:Int)<(L.length:Int):=by rw[la];simp
     simp(disch:=omega)only[wk,tupled,↓reduceIte,reduceEqDiff,reduceEq,reduceAdd,reduceCtorEq,E0,E5,E29,E30,E31,n1]
     rw[gp]
     simp only[gapM,List.append_nil]
     exact .inl jG
   | cons b r=>
     rw[List.length_cons]at la
     have n1:(pre.length:Int)<(L.length:Int):=by omega
     have d1:=i_drop pre b r
     rw[<-a1]at d1
     obtain⟨b0,b1⟩:=hLm b (by rw[a1];simp)
     have w1:IntKind.i64.wrap (b+1)=b+1:=wrap_i64 (by omega) (by omega)
     rw[gapM]at gp
     by_cases hb:e<b
     . rw[if_pos hb]at gp
       have w2:IntKind.i64.wrap (b-e)=b-e:=wrap_i64 (by omega) (by omega)
       obtain⟨c,G',y1,y2,y3⟩:=hY G1 ⟨e,b-e⟩ (gapM (b+1) r) G gp jG gN
       have y1:(cbL tabR).yl id [.agg [.int .i64 e,.int .i64 (b-e)]] G=some (.ret (.bool c),G'):=y1
       cases c with
       | false=>
         rw[if_neg Bool.false_ne_true]at y3
         simp(disch:=omega)only[wk,tupled,↓reduceIte,reduceEqDiff,reduceEq,reduceAdd,reduceCtorEq,E0,E5,E29,E30,E31,n1,d1,hb,w1,w2,y1,Int.reduceToNat,Int.reduceAdd,Int.reduceSub,Int.reduceMul,Int.reduceNeg,Nat.reduceSub,Nat.reduceDiv,runG_un,gp_un]
         exact .inr y3
       | true=>
         rw[if_pos rfl]at y3
         simp(disch:=omega)only[wk,tupled,↓reduceIte,reduceEqDiff,reduceEq,reduceAdd,reduceCtorEq,E0,E5,E29,E30,E31,n1,d1,hb,w1,w2,y1,Int.reduceToNat,Int.reduceAdd,Int.reduceSub,Int.reduceMul,Int.reduceNeg,Nat.reduceSub,Nat.reduceDiv,runG_un,gp_un]
         exact ih (pre++[b],r) _ _ _ (by simp) ⟨by simp[a1],⟨b+1,G1++[⟨e,b-e⟩],by simp only[en,↓reduceIte,reduceEqDiff],by rw[gp];simp,y3,by omega,by omega⟩,y2,by simp only[en,↓reduceIte,reduceEqDiff,E0],⟨g,by simp only[en,↓reduceIte,reduceEqDiff,E29]⟩,by simp only[en,↓reduceIte,reduceEqDiff,E30],by simp only[en,↓reduceIte,reduceEqDiff],rfl⟩
     . rw[if_neg hb]at gp
       simp(disch:=omega)only[wk,tupled,↓reduceIte,reduceEqDiff,reduceEq,reduceAdd,reduceCtorEq,E0,E5,E29,E30,E31,n1,d1,hb,w1,Int.reduceToNat,Int.reduceAdd,Int.reduceSub,Int.reduceMul,Int.reduceNeg,Nat.reduceSub,Nat.reduceDiv,runG_un,gp_un]
       exact ih (pre++[b],r) _ _ _ (by simp) ⟨by simp[a1],⟨b+1,G1,by simp only[en,↓reduceIte,reduceEqDiff],gp,jG,by omega,by omega⟩,gN,by simp only[en,↓reduceIte,reduceEqDiff,E0],⟨g,by simp only[en,↓reduceIte,reduceEqDiff,E29]⟩,by simp only[en,↓reduceIte,reduceEqDiff,E30],by simp only[en,↓reduceIte,reduceEqDiff],rfl⟩
theorem okInt {v:AV} (h:OkS (.int .i64) v):∃n:Int,v= .int .i64 n:=by
 cases h;exact⟨_,rfl⟩
theorem rows1:∀(rows:List (List AV)),(∀r∈rows,r.length=1)->(∀r∈rows,∀(i:Nat) (s:Sh) (v:AV),([.int .i64]:List Sh)[i]? =some s->r[i]? =some v->OkS s v)->∃l:List Int,rows.flatten=encs i64A l/\rows.length=l.length
 |[],_,_=>⟨[],rfl,rfl⟩
 | r::rows,h1,h2=>by
   obtain⟨l,e1,e2⟩:=rows1 rows (fun x hx=>h1 x (List.mem_cons_of_mem _ hx)) (fun x hx=>h2 x (List.mem_cons_of_mem _ hx))
   have hr:=h1 r (List.mem_cons_self ..)
   match r,hr with
   | [v],_=>
     obtain⟨n,rfl⟩:=okInt (h2 [v] (List.mem_cons_self ..) 0 (.int .i64) v rfl rfl)
     refine⟨n::l, ?_,by rw[List.length_cons,List.length_cons,e2]⟩
     rw[List.flatten_cons,e1];rfl
theorem intR_of {v:AV} (h:OkS (.slice [.int .i64]) v):∃l,IntR l v:=by
 cases h with
 |slnil=>exact⟨[],1,.z,rfl,fun _=>rfl,rfl⟩
 | sl _ rows h hl hr=>
   obtain⟨l,e1,e2⟩:=rows1 rows hl hr
   exact⟨l,1,.ro,by rw[e1,e2];rfl,fun _=>rfl,rfl⟩
def NzR (l:List Int) (v:AV):Prop:=l≠[]->∀s n cs,v≠ .sl s n cs .z
theorem intRz_of {v:AV} (h:OkS (.slice [.int .i64]) v):∃l,IntR l v/\NzR l v:=by
 cases h with
 |slnil=>exact⟨[],⟨1,.z,rfl,fun _=>rfl,rfl⟩,fun h=>absurd rfl h⟩
 | sl _ rows h hl hr=>
   obtain⟨l,e1,e2⟩:=rows1 rows hl hr
   exact⟨l,⟨1,.ro,by rw[e1,e2];rfl,fun _=>rfl,rfl⟩,fun _ s n cs e=>by cases e⟩
theorem useZ_of {x:List AV} (o:OkL [.int .i64,.int .i64,.int .i64,.int .i64,.slice [.int .i64],.slice [.int .i64],.slice [.int .i64]] x):∃f bl rl fl bv rv fv,.agg x=useA f bv rv fv/\IntR bl bv/\IntR rl rv/\IntR fl fv/\NzR bl bv:=by
 obtain⟨hl,ho⟩:=o
 match x,hl with
 | [a,b,c,d,e,f,g],_=>
   obtain⟨n0,rfl⟩:=okInt (ho 0 _ a rfl rfl)
   obtain⟨n1,rfl⟩:=okInt (ho 1 _ b rfl rfl)
   obtain⟨n2,rfl⟩:=okInt (ho 2 _ c rfl rfl)
   obtain⟨n3,rfl⟩:=okInt (ho 3 _ d rfl rfl)
   obtain⟨bl,hb,hz⟩:=intRz_of (ho 4 _ e rfl rfl)
   obtain⟨rl,hr⟩:=intR_of (ho 5 _ f rfl rfl)
   obtain⟨fl,hf⟩:=intR_of (ho 6 _ g rfl rfl)
   exact⟨⟨n0,n1,n2,n3⟩,bl,rl,fl,e,f,g,rfl,hb,hr,hf,hz⟩
def ruAs:ACode:=(.region [qo 11 (.alloc [(.int .i64 0),(.int .i64 0)]),qe (.store 2 (.t 11) (.t 34))])
def ruBd:ACode:=(.block 3 (.seq (.seq (.drawn [ql 35 10,ql 36 7,qo 37 (.len 0 (.t 36)),qn 38 .geq (.t 35) (.t 37),qm 39 38,qg 40 (.load 2 true (.t 11)) 39 false,qg 41 (.load 1 false (.t 7)) 39 false,qg 42 (.load 1 false (.t 10)) 39 false,qg 43 (.ixa 2 (.t 41) (.t 42)) 39 false,qg 44 (.load 2 true (.t 43)) 39 false] [qg 45 (.bin .neq (.struct [0,0]) (.t 40) (.t 44)) 39 false,qk 46 39 qt (.t 45)]) (.cond (.t 46) (.seq (.region [qs 4 qz]) .ret) .skip)) (.seq (.region [ql 47 10,qn 48 .add (.t 47) (qi 1),qs 10 (.t 48)]) (.seq (.region [ql 49 9,qn 50 .eql (.t 49) (qi 0),qm 51 50,qg 52 (.load 1 false (.t 10)) 51 true,qg 53 (.load 1 false (.t 3)) 51 true,qg 54 (.bin .geq .num (.t 52) (.t 53)) 51 true,qk 55 51 (.t 54) qz]) (.cond (.t 55) (.exit 2) .skip)))))
structure RuS (C:List AV) (W:List Rn) (w:AV) (many t:Int) (N vb mb wb tb nb:Nat) (lo:AObj) (j:Nat) (G:Heap):Prop where
 v:G[vb]? =some (.cells C)
 m:G[mb]? =some (.cells [.int .i64 many])
 w:G[wb]? =some (.cells [w])
 t:G[tb]? =some (.cells [.int .i64 t])
 n:G[nb]? =some (.cells [.int .i64 (j:Int)])
 d:G[N]? =some .defd
 l:G[N+1]? =some lo
theorem rn_eq {xo yo:X} (a m:Int):binV .neq (.struct [0,0]) xo yo (.agg [.int .i64 a,.int .i64 m]) (.agg [.int .i64 a,.int .i64 m])=some (.bool false):=by
 show(eqV (.struct [0,0]) (.agg [.int .i64 a,.int .i64 m]) (.agg [.int .i64 a,.int .i64 m])).map (fun b=>AV.bool (!b))=_
 have e:eqV (.struct [0,0]) (.agg [.int .i64 a,.int .i64 m]) (.agg [.int .i64 a,.int .i64 m])=cellsEq [0,0] [.int .i64 a,.int .i64 m] [.int .i64 a,.int .i64 m]:=rfl
 rw[e]
 simp only[cellsEq,cellEq,if_true,beq_self_eq_true]
 rfl
theorem ru_round {C:List AV} {W:List Rn} {s:Nat} {tk:Tk} {many t:Int} {N vb mb wb tb nb:Nat} (hN:vb<N/\mb<N/\wb<N/\tb<N/\nb<N) (hne:vb≠nb/\mb≠nb/\wb≠nb/\tb≠nb) {tm:List AV} {E:Env} (ha:Ag 79 tm E)
   (E3:E 3= .ptr mb 0) (E7:E 7= .ptr wb 0) (E9:E 9= .ptr tb 0) (E10:E 10= .ptr nb 0) (hl:W.length<=1000) {pre post:List Rn} {x:Rn} (hW:W=pre++x::post) (hs:s=2) (ht:t=0∨t=1)
   {G:Heap} (hR:RuS C W (.sl s W.length (encs rnA W) tk) many t N vb mb wb tb nb (.loop 0 .normal tm [34] ruAs ruBd) pre.length G):
   ∃b G',(cbL tabR).yl (N+1) [.agg (rnA x)] G=some (.ret (.bool b),G')/\(b=decide ¬(t=0/\many<=(pre.length:Int)+1))/\G.length<=G'.length/\(∀i,i<N->i≠nb->G'[i]? =G[i]?)/\RuS C W (.sl s W.length (encs rnA W) tk) many t N vb mb wb tb nb (if b then .loop 0 .normal tm [34] ruAs ruBd else .loop 2 (.exit 2) tm [34] ruAs ruBd) (pre.length+1) G':=by
 subst hs
 obtain⟨hv,hm,hw,htb,hn,hd,hlo⟩:=hR
 obtain⟨P,hP⟩:∃P:Bool->Heap->Prop,P=fun b G'=>(b=decide ¬(t=0/\many<=(pre.length:Int)+1))/\G.length<=G'.length/\(∀i,i<N->i≠nb->G'[i]? =G[i]?)/\RuS C W (.sl 2 W.length (encs rnA W) tk) many t N vb mb wb tb nb (if b then .loop 0 .normal tm [34] ruAs ruBd else .loop 2 (.exit 2) tm [34] ruAs ruBd) (pre.length+1) G':=⟨_,rfl⟩
 have key:=yl_wp (tab:=tabR) (id:=N+1) (P:=P) (args:=[.agg (rnA x)]) (H:=G) (readLoop_of hlo) ha rfl (by decide) (by decide) (by decide) (by decide) (by decide) ?_
 . rw[hP]at key;exact key
 have gl:N+1<G.length:=(List.getElem?_eq_some_iff.1 hlo).1
 have ex:rnA x=[.int .i64 x.a,.int .i64 x.m]:=rfl
 have g0:∀L:List AObj,(G++L)[G.length]? =L[0]? :=fun L=>by rw[List.getElem?_append_right (Nat.le_refl _),Nat.sub_self]
 have t0:∀(L:List AObj) (o:AObj),(G++L).set G.length o=G++L.set 0 o:=fun L o=>by rw[List.set_append_right _ _ (Nat.le_refl _),Nat.sub_self]
 have gk:∀i,i<G.length->∀L:List AObj,(G++L)[i]? =G[i]? :=fun i hi L=>List.getElem?_append_left hi
 unfold ruAs
 rw[ex]
 simp(disch:=omega)only[wk,tupled,↓reduceIte,reduceEqDiff,reduceEq,reduceAdd,reduceCtorEq,updPs_cons,updPs_nil,g0,t0]
 refine⟨rfl,rfl,_,_,_,_,_,readLoop_of (by rw[gk _ gl];exact hlo), ?_⟩
 obtain⟨G1,hG1⟩:∃G1,G1=(G++[AObj.cells [.int .i64 x.a,.int .i64 x.m]]).set (N+1) (.loop 1 .normal tm [34] ruAs ruBd):=⟨_,rfl⟩
 rw[<-hG1]
 have l1:G1.length=G.length+1:=by rw[hG1];simp
 have k1:∀i,i<G.length->i≠N+1->G1[i]? =G[i]? :=fun i h1 h2=>by rw[hG1,List.getElem?_set_ne (Ne.symm h2),gk _ h1]
 have c1:G1[G.length]? =some (.cells [.int .i64 x.a,.int .i64 x.m]):=by rw[hG1,List.getElem?_set_ne (by omega),g0];rfl
 have lo1:G1[N+1]? =some (.loop 1 .normal tm [34] ruAs ruBd):=by rw[hG1,List.getElem?_set_self (by simp;omega)]
 obtain⟨n1,n2,n3,n4,n5⟩:=hN
 have m1:=(k1 mb (by omega) (by omega)).trans hm
 have w1:=(k1 wb (by omega) (by omega)).trans hw
 have q1:=(k1 tb (by omega) (by omega)).trans htb
 have p1:=(k1 nb (by omega) (by omega)).trans hn
 have lW:W.length=pre.length+(post.length+1):=by rw[hW];simp
 have b1:¬(W.length:Int)<=(pre.length:Int):=by omega
 have b2:(pre.length:Int)<(W.length:Int):=by omega
 have b3:(0:Int)<=(pre.length:Int):=by omega
 have d1:=rn_drop pre x post
 rw[<-hW]at d1
 have wr:IntKind.i64.wrap ((pre.length:Int)+1)=(pre.length:Int)+1:=wrap_i64 (by omega) (by omega)
 have s1:∀o:AObj,(G1.set nb o)[nb]? =some o:=fun o=>List.getElem?_set_self (by omega)
 have s2:∀(i:Nat) (o:AObj),i≠nb->(G1.set nb o)[i]? =G1[i]? :=fun i o h=>List.getElem?_set_ne (Ne.symm h)
 obtain⟨e1,e2,e3,e4⟩:=hne
 have sm:=fun o=>(s2 mb o e2).trans m1
 have st:=fun o=>(s2 tb o e4).trans q1
 unfold ruBd
 have fin:∀b:Bool,b=decide ¬(t=0/\many<=(pre.length:Int)+1)->P b (((G1.set nb (.cells [.int .i64 ((pre.length:Int)+1)])).set (N+1) (if b then .loop 0 .normal tm [34] ruAs ruBd else .loop 2 (.exit 2) tm [34] ruAs ruBd))):=fun b hb=>by
   rw[hP]
   have kk:∀(i:Nat) (o:AObj),i<N->i≠nb->((G1.set nb (.cells [.int .i64 ((pre.length:Int)+1)])).set (N+1) o)[i]? =G[i]? :=fun i o h1 h2=>by rw[List.getElem?_set_ne (by omega),s2 i _ h2,k1 i (by omega) (by omega)]
   refine⟨hb,by simp;omega,fun i h1 h2=>kk i _ h1 h2,(kk vb _ n1 e1).trans hv,(kk mb _ n2 e2).trans hm,(kk wb _ n3 e3).trans hw,(kk tb _ n4 e4).trans htb, ?_, ?_, ?_⟩
   . rw[List.getElem?_set_ne (by omega),s1];simp
   . rw[List.getElem?_set_ne (by omega),s2 N _ (by omega),k1 N (by omega) (by omega)];exact hd
   . rw[List.getElem?_set_self (by simp;omega)]
 have lo2:∀o:AObj,(G1.set nb o)[N+1]? =some (.loop 1 .normal tm [34] ruAs ruBd):=fun o=>(s2 (N+1) o (by omega)).trans lo1
 rcases ht with rfl|rfl
 . by_cases hm2:many<=(pre.length:Int)+1
   . simp(disch:=omega)only[wk,tupled,↓reduceIte,reduceEqDiff,reduceEq,reduceAdd,reduceCtorEq,E3,E7,E9,E10,m1,w1,q1,p1,c1,b1,b2,b3,d1,wr,s1,sm,st,rn_eq,hm2,runG_un,gp_un,Int.reduceToNat,Int.reduceAdd,Int.reduceSub,Int.reduceMul,Int.reduceNeg,Nat.reduceSub,Nat.reduceDiv]
     refine⟨rfl,1,.normal,tm,[34],ruAs,ruBd,readLoop_of (lo2 _), ?_⟩
     exact fin false (by simp[hm2])
   . simp(disch:=omega)only[wk,tupled,↓reduceIte,reduceEqDiff,reduceEq,reduceAdd,reduceCtorEq,E3,E7,E9,E10,m1,w1,q1,p1,c1,b1,b2,b3,d1,wr,s1,sm,st,rn_eq,hm2,runG_un,gp_un,Int.reduceToNat,Int.reduceAdd,Int.reduceSub,Int.reduceMul,Int.reduceNeg,Nat.reduceSub,Nat.reduceDiv]
     refine⟨rfl,1,.normal,tm,[34],ruAs,ruBd,readLoop_of (lo2 _), ?_⟩
     exact fin true (by simp;omega)
 . simp(disch:=omega)only[wk,tupled,↓reduceIte,reduceEqDiff,reduceEq,reduceAdd,reduceCtorEq,E3,E7,E9,E10,m1,w1,q1,p1,c1,b1,b2,b3,d1,wr,s1,sm,st,rn_eq,runG_un,gp_un,Int.reduceToNat,Int.reduceAdd,Int.reduceSub,Int.reduceMul,Int.reduceNeg,Nat.reduceSub,Nat.reduceDiv]
   refine⟨rfl,1,.normal,tm,[34],ruAs,ruBd,readLoop_of (lo2 _), ?_⟩
   exact fin true (by simp)
theorem runs1_no {f:Frm} {rt:Tv} {ns bl rl:List Int} {bv rv:AV} (I:Img f rt ns bl rl bv rv) (ok:okI f bl rl=false) {vb id:Nat} {H:Heap} (hv:H[vb]? =some (.cells (imgC f (mkT rt ns) bv rv))):
   ∃L,(cbL tabR).ic 37 [.yld id,.ptr vb 0] H=some (.ret (.tup []),H++L):=by
 have:=ic_wp (tab:=tabR) (f:=37) (fi:=c37) (args:=[.yld id,.ptr vb 0]) (H:=H) (P:=fun o G=>o= .ret (.tup [])/\∃L,G=H++L) rfl rfl (by simp[c37]) (by decide) ?_
 . obtain⟨o,G,e1,rfl,L,rfl⟩:=this
   exact⟨L,e1⟩
 have so:=fun H=>sof_px I H
 rw[ok]at so
 simp only[Bool.false_eq_true,if_false]at so
 clear I
 generalize mkT rt ns=T at*
 have im:imgC f T bv rv=[.int .i64 f.b,.int .i64 f.i,.int .i64 f.r,.int .i64 f.t,.int .u64 5,.int .u64 6,.int .i64 9,.int .i64 (9+f.i/4),.int .i64 (9+f.i/4+f.r/4),.int .i64 (dF f),.sl 7 T.length (encs tvC T) .ro,bv,rv]:=rfl
 have g0:∀L:List AObj,(H++L)[H.length]? =L[0]? :=fun L=>by rw[List.getElem?_append_right (Nat.le_refl _),Nat.sub_self]
 have t0:∀(L:List AObj) (o:AObj),(H++L).set H.length o=H++L.set 0 o:=fun L o=>by rw[List.set_append_right _ _ (Nat.le_refl _),Nat.sub_self]
 unfold c37
 rw[im]at so hv
 unfold z13 at so
 simp(disch:=omega)only[wk,tupled,↓reduceIte,reduceEqDiff,reduceEq,reduceAdd,reduceCtorEq,so,hv,g0,t0]
 exact⟨_,rfl⟩
def wantM (f:Frm) (bl rl:List Int):List Rn:=if okI f bl rl then gapM (dF f) (bl++[f.b])else []
theorem runs1_prod {f:Frm} {rt:Tv} {ns bl rl:List Int} {bv rv:AV} (I:Img f rt ns bl rl bv rv) (hz:NzR bl bv) {vb id N:Nat} {H:Heap} (J:List Rn->Heap->Prop) (Dn:Heap->Prop)
   (hN:N<=H.length) (hvH:H[vb]? =some (.cells (imgC f (mkT rt ns) bv rv)))
   (hY:∀pre x post G,wantM f bl rl=pre++x::post->J pre G->N<=G.length->∃b G',(cbL tabR).yl id [.agg (rnA x)] G=some (.ret (.bool b),G')/\N<=G'.length/\if b=true then J (pre++[x]) G' else Dn G')
   (j0:∀L,J [] (H++L)):
   ∃G,(cbL tabR).ic 37 [.yld id,.ptr vb 0] H=some (.ret (.tup []),G)/\(J (wantM f bl rl) G∨Dn G):=by
 unfold wantM at*
 cases ok:okI f bl rl with
 | true=>
   rw[ok,if_pos rfl]at hY
   rw[if_pos rfl]
   exact runs1_any I hz ok J Dn hN hvH hY j0
 | false=>
   rw[if_neg Bool.false_ne_true]
   obtain⟨L,hL⟩:=runs1_no I ok (id:=id) hvH
   exact⟨_,hL,.inl (j0 L)⟩
def ruLp:ACode:=(.seq (.seq (.region [ql 29 9,qn 30 .lss (.t 29) (qi 2)]) (.cond (.t 30) .skip (.exit 0))) (.seq (.block 1 (.seq (.region [qo 10 (.alloc [(.int .i64 0)]),qs 10 (qi 0)]) (.seq (.seq (.region [qm 33 8]) (.block 2 (.range (.t 33) [34] ruAs ruBd))) (.seq (.region [ql 56 9,qn 57 .eql (.t 56) (qi 0),qm 58 57,qg 59 (.load 1 false (.t 10)) 58 true,qg 60 (.load 1 false (.t 7)) 58 true,qg 61 (.len 0 (.t 60)) 58 true,qg 62 (.load 1 false (.t 3)) 58 true,qg 63 (.mm true (qi 1) (.t 62)) 58 true,qg 64 (.mm false (.t 61) (.t 63)) 58 true,qg 65 (.bin .neq .num (.t 59) (.t 64)) 58 true,qk 66 58 (.t 65) qz,qm 67 66,qg 68 (.load 1 false (.t 9)) 67 false,qg 69 (.bin .eql .num (.t 68) (qi 1)) 67 false,qg 70 (.mv (.t 69)) 67 false,qg 71 (.load 1 false (.t 10)) 70 true,qg 72 (.load 1 false (.t 7)) 70 true,qg 73 (.len 0 (.t 72)) 70 true,qg 74 (.bin .neq .num (.t 71) (.t 73)) 70 true,qg 75 (.pick (.t 70) (.t 74) qz) 67 false,qk 76 67 qt (.t 75)]) (.cond (.t 76) (.seq (.region [qs 4 qz]) .ret) .skip))))) (.seq (.seq (.region [ql 77 9]) (.region [qo 9 (.alloc [(.int .i64 0)]),qs 9 (.t 77)])) (.region [ql 31 9,qn 32 .add (.t 31) (qi 1),qs 9 (.t 32)]))))
theorem fn_nil {xo yo:X} {a:FuncId} {b:List AV}:binV .eql .func xo yo (.fn a b) .nilf=some (.bool false):=rfl
theorem marks_lt {H:Heap}:∀{ds:List ADf},Marks H ds->∀k,ADf.mark k∈ds->k<H.length
 |[],_,k,hk=>by simp at hk
 | .call _ _::_,hm,_,_=>hm.elim
 | .mark j::r,hm,k,hk=>by
   rcases List.mem_cons.1 hk with e|e
   . cases e;exact(List.getElem?_eq_some_iff.1 hm.1).1
   . exact marks_lt hm.2.2 k e
theorem marks_push {H G:Heap} {ds:List ADf} {j:Nat} (h:Marks H ds) (hj:H.length<=j) (h1:G[j]? =some .defd) (h2:∀k,k<H.length->H[k]? =some .defd->G[k]? =some .defd):Marks G (.mark j::ds):=
 ⟨h1,fun hm=>by have:=marks_lt h _ hm;omega,h.mono fun k hk hd=>h2 k (List.getElem?_eq_some_iff.1 hd).1 hd⟩
theorem ru_loop {C:List AV} {W:List Rn} {s:Nat} {tk:Tk} {mb rb wb tb vb:Nat} {Q:KP} {ks:List Kt} {E:Env} {H:Heap} (hl:W.length<=1000) (hs:W≠[]->s=2) (many:Int)
   (prod:∀{id N:Nat} {H:Heap} (J:List Rn->Heap->Prop) (Dn:Heap->Prop),N<=H.length->H[vb]? =some (.cells C)->(∀pre x post G,W=pre++x::post->J pre G->N<=G.length->∃b G',(cbL tabR).yl id [.agg (rnA x)] G=some (.ret (.bool b),G')/\N<=G'.length/\if b=true then J (pre++[x]) G' else Dn G')->(∀L,J [] (H++L))->∃G,(cbL tabR).ic 37 [.yld id,.ptr vb 0] H=some (.ret (.tup []),G)/\(J W G∨Dn G))
   (E3:E 3= .ptr mb 0) (E4:E 4= .ptr rb 0) (E7:E 7= .ptr wb 0) (E8:E 8= .fn 37 [.ptr vb 0]) (E9:E 9= .ptr tb 0)
   (hm:H[mb]? =some (.cells [.int .i64 many])) (hr:H[rb]? =some (.cells [.bool false])) (hw:H[wb]? =some (.cells [.sl s W.length (encs rnA W) tk])) (hv:H[vb]? =some (.cells C)) (hT:H[tb]? =some (.cells [.int .i64 0]))
   (fin:∀E' df' H',E' 4= .ptr rb 0->H'[rb]? =some (.cells [.bool false])->Marks H' df'->Ret (cbL tabR) none 79 Q ks (.exit 0) E' df' H'):
   Ret (cbL tabR) none 79 Q (.code (.loop ruLp)::ks) .normal E [] H:=by
 refine loop_ind (fun(x:Nat×Nat) E df H=>x.1<=2/\E 3= .ptr mb 0/\E 4= .ptr rb 0/\E 7= .ptr wb 0/\E 8= .fn 37 [.ptr vb 0]/\E 9= .ptr x.2 0/\H[mb]? =some (.cells [.int .i64 many])/\H[rb]? =some (.cells [.bool false])/\H[wb]? =some (.cells [.sl s W.length (encs rnA W) tk])/\H[vb]? =some (.cells C)/\H[x.2]? =some (.cells [.int .i64 (x.1:Nat)])/\Marks H df)
   (fun x=>2-x.1) (0,tb) (by decide) (.inl rfl) ⟨by omega,E3,E4,E7,E8,E9,hm,hr,hw,hv,hT,trivial⟩ ?_
 clear E3 E4 E7 E8 E9 hm hr hw hv hT
 intro ⟨t,tb⟩ E df H ih hP
 obtain⟨t2,E3,E4,E7,E8,E9,hm,hr,hw,hv,hT,hms⟩:=hP
 dsimp only at t2 E9 hT
 unfold ruLp
 by_cases htt:t<2
 case neg=>
   obtain rfl:t=2:=by omega
   simp(disch:=omega)only[wk,tupled,↓reduceIte,reduceEqDiff,reduceEq,reduceAdd,reduceCtorEq,E3,E4,E7,E8,E9,hT]
   exact fin _ _ _ (by simp only[en,↓reduceIte,reduceEqDiff,E4]) hr hms
 have e1:∀o:AObj,(H++[o])[H.length]? =some o:=fun o=>by simp
 simp(disch:=omega)only[wk,tupled,↓reduceIte,reduceEqDiff,reduceEq,reduceAdd,reduceCtorEq,E3,E4,E7,E8,E9,hT,e1,List.append_nil]
 generalize hH1:(H++[AObj.cells [.int .i64 0]]).set H.length (.cells [.int .i64 0])=H1
 have u1:∀(i:Nat) (q:AObj),H[i]? =some q->H1[i]? =some q:=fun i q hq=>by
   have:=(List.getElem?_eq_some_iff.1 hq).1
   rw[<-hH1,List.getElem?_set_ne (by omega),List.getElem?_append_left this];exact hq
 have u2:H1[H.length]? =some (.cells [.int .i64 0]):=by rw[<-hH1,List.getElem?_set_self (by simp)]
 have u3:H1.length=H.length+1:=by rw[<-hH1];simp
 refine ret_range (f:=37) (caps:=[.ptr vb 0]) (by simp only[en,↓reduceIte,reduceEqDiff,evE_t,E8]) (fun tm ha=> ?_)
 have lv:=(List.getElem?_eq_some_iff.1 hv).1
 have lm:=(List.getElem?_eq_some_iff.1 hm).1
 have lw:=(List.getElem?_eq_some_iff.1 hw).1
 have lr:=(List.getElem?_eq_some_iff.1 hr).1
 have lt:=(List.getElem?_eq_some_iff.1 hT).1
 obtain⟨H0,hH0⟩:∃H0,H0=H1++[AObj.defd,.loop 0 .normal tm [34] ruAs ruBd]:=⟨_,rfl⟩
 have up:∀(i:Nat) (q:AObj),H1[i]? =some q->H0[i]? =some q:=fun i q hq=>by
   rw[hH0,List.getElem?_append_left (List.getElem?_eq_some_iff.1 hq).1];exact hq
 have hd1:H0[H1.length]? =some .defd:=by rw[hH0];simp
 have hd2:H0[H1.length+1]? =some (.loop 0 .normal tm [34] ruAs ruBd):=by rw[hH0];simp
 have hl0:H0.length=H1.length+2:=by rw[hH0];simp
 obtain⟨Jp,hJp⟩:∃Jp:List Rn->Heap->Prop,Jp=fun pre G=>(t=0->pre=[]∨(pre.length:Int)<many)/\(∀i,i<H1.length->i≠H.length->G[i]? =H0[i]?)/\RuS C W (.sl s W.length (encs rnA W) tk) many (t:Nat) H1.length vb mb wb tb H.length (.loop 0 .normal tm [34] ruAs ruBd) pre.length G:=⟨_,rfl⟩
 obtain⟨Dp,hDp⟩:∃Dp:Heap->Prop,Dp=fun G=>∃j:Nat,t=0/\0<j/\j<=W.length/\many<=j/\(j=1∨(j:Int)-1<many)/\(∀i,i<H1.length->i≠H.length->G[i]? =H0[i]?)/\RuS C W (.sl s W.length (encs rnA W) tk) many (t:Nat) H1.length vb mb wb tb H.length (.loop 2 (.exit 2) tm [34] ruAs ruBd) j G:=⟨_,rfl⟩
 have hY:∀pre x post G,W=pre++x::post->Jp pre G->H1.length+2<=G.length->∃b G',(cbL tabR).yl (H1.length+1) [.agg (rnA x)] G=some (.ret (.bool b),G')/\H1.length+2<=G'.length/\if b=true then Jp (pre++[x]) G' else Dp G':=fun pre x post G hW hJ hN=>by
   rw[hJp]at hJ
   obtain⟨a,b,c⟩:=hJ
   have lW:W.length=pre.length+(post.length+1):=by rw[hW];simp
   obtain⟨b',G',y1,y2,y3,y4,y5⟩:=ru_round (N:=H1.length) (nb:=H.length) ⟨by omega,by omega,by omega,by omega,by omega⟩ ⟨by omega,by omega,by omega,by omega⟩ ha (by simp only[en,↓reduceIte,reduceEqDiff,E3]) (by simp only[en,↓reduceIte,reduceEqDiff,E7]) (by simp only[en,↓reduceIte,reduceEqDiff,E9]) (by simp only[en,↓reduceIte,reduceEqDiff]) hl hW (hs (by rw[hW];simp)) (by omega) c
   refine⟨b',G',y1,by omega, ?_⟩
   cases b' with
   | false=>
     have y2:=of_decide_eq_false y2.symm
     simp only[Decidable.not_not]at y2
     rw[if_neg Bool.false_ne_true,hDp]
     refine⟨pre.length+1,by omega,by omega,by omega,by omega, ?_,fun i h1 h2=>(y4 i h1 h2).trans (b i h1 h2),y5⟩
     rcases a (by omega)with rfl|h
     . exact .inl rfl
     . right;omega
   | true=>
     have y2:=of_decide_eq_true y2.symm
     rw[if_pos rfl,hJp]
     refine⟨fun h0=> .inr (by simp;omega),fun i h1 h2=>(y4 i h1 h2).trans (b i h1 h2), ?_⟩
     rw[List.length_append]
     exact y5
 have j0:∀L,Jp [] (H0++L):=fun L=>by
   have ul:∀(i:Nat) (q:AObj),H0[i]? =some q->(H0++L)[i]? =some q:=fun i q hq=>by
     rw[List.getElem?_append_left (List.getElem?_eq_some_iff.1 hq).1];exact hq
   rw[hJp]
   exact⟨fun _=> .inl rfl,fun i h1 _=>List.getElem?_append_left (by omega),ul _ _ (up _ _ (u1 _ _ hv)),ul _ _ (up _ _ (u1 _ _ hm)),ul _ _ (up _ _ (u1 _ _ hw)),ul _ _ (up _ _ (u1 _ _ hT)),ul _ _ (up _ _ u2),ul _ _ hd1,ul _ _ hd2⟩
 obtain⟨H2,hic,hJD⟩:=prod (id:=H1.length+1) (N:=H1.length+2) (H:=H0) Jp Dp (by omega) (up _ _ (u1 _ _ hv)) hY j0
 obtain⟨M,hM⟩:∃M:Int,(1<many/\M=many)∨(many<=1/\M=1):=by
   by_cases h:1<many
   . exact⟨many,.inl ⟨h,rfl⟩⟩
   . exact⟨1,.inr ⟨by omega,rfl⟩⟩
 obtain⟨j,st,pend,hst,hpd,hK,hS,hj⟩:∃(j st:Nat) (pend:Ex),st≠1/\(pend= .normal∨pend= .exit 2)/\(∀i,i<H1.length->i≠H.length->H2[i]? =H0[i]?)/\RuS C W (.sl s W.length (encs rnA W) tk) many (t:Nat) H1.length vb mb wb tb H.length (.loop st pend tm [34] ruAs ruBd) j H2/\((t=1/\j=W.length)∨(t=0/\(j:Int)=if(W.length:Int)<=M then(W.length:Int)else M)):=by
   rcases hJD with h|h
   . rw[hJp]at h
     obtain⟨a,b,c⟩:=h
     refine⟨W.length,0,.normal,by decide,.inl rfl,b,c, ?_⟩
     by_cases h0:t=0
     . refine .inr ⟨h0, ?_⟩
       rcases a h0 with h|h
       . subst h;rw[if_pos (by simp only[List.length_nil];omega)]
       . rw[if_pos (by omega)]
     . exact .inl ⟨by omega,rfl⟩
   . rw[hDp]at h
     obtain⟨j,a1,a2,a3,a4,a5,b,c⟩:=h
     refine⟨j,2,.exit 2,by decide,.inr rfl,b,c,.inr ⟨a1, ?_⟩⟩
     by_cases h:(W.length:Int)<=M
     . rw[if_pos h];omega
     . rw[if_neg h];omega
 have hlo:=hS.l
 obtain⟨H3,hH3⟩:∃H3,H3=H2.set (H1.length+1) (.loop 3 pend tm [34] ruAs ruBd):=⟨_,rfl⟩
 have s0:∀(i:Nat) (q:AObj),H2[i]? =some q->i≠H1.length+1->H3[i]? =some q:=fun i q hq hne=>by rw[hH3,List.getElem?_set_ne (fun e=>hne e.symm)];exact hq
 have sk:∀(i:Nat) (q:AObj),H[i]? =some q->H3[i]? =some q:=fun i q hq=>by
   have:=(List.getElem?_eq_some_iff.1 hq).1
   exact s0 i q ((hK i (by omega) (by omega)).trans (up _ _ (u1 _ _ hq))) (by omega)
 have n_m:=sk _ _ hm
 have n_r:=sk _ _ hr
 have n_w:=sk _ _ hw
 have n_v:=sk _ _ hv
 have n_t:=sk _ _ hT
 have n_n:=s0 _ _ hS.n (by omega)
 have n_k:Marks H3 (.mark H1.length::df):=marks_push hms (by omega) (s0 _ _ hS.d (by omega)) fun k hk hd=>sk k _ hd
 refine⟨_,H2,st,pend,_,_,_,_,by rw[<-hH0];exact hic,readLoop_of hlo,hst,by rcases hpd with rfl|rfl<;>rfl, ?_⟩
 rw[<-hH3]
 have ih2:=ih (t+1,H3.length)
 clear hH3 s0 sk hlo hS hK hic hJD j0 hY hDp hJp Dp Jp hd1 hd2 hl0 up hH0 H0 ih u1 u2 hms hm hr hw hv hT lv lm lw lr lt
 have k3:∀o:AObj,(H3++[o])[H3.length]? =some o:=fun o=>by simp
 have k4:∀o o':AObj,((H3++[o]).set H3.length o')[H3.length]? =some o':=fun o o'=>by simp
 have fk:∀(i:Nat) (q o o' o'':AObj),H3[i]? =some q->(((H3++[o]).set H3.length o').set H3.length o'')[i]? =some q:=fun i q o o' o'' hq=>by
   have:=(List.getElem?_eq_some_iff.1 hq).1
   rw[List.getElem?_set_ne (by omega),List.getElem?_set_ne (by omega),List.getElem?_append_left this];exact hq
 have done:∀E':Env,E' 3= .ptr mb 0->E' 4= .ptr rb 0->E' 7= .ptr wb 0->E' 8= .fn 37 [.ptr vb 0]->E' 9= .ptr H3.length 0->∀o o',
     Ret (cbL tabR) none 79 Q (.again (.loop ruLp)::ks) .normal E' (.mark H1.length::df) (((H3++[o]).set H3.length o').set H3.length (.cells [.int .i64 ((t:Int)+1)])):=fun E' a3 a4 a7 a8 a9 o o'=>
   ih2 _ _ _ (by simp only;omega) ⟨by simp only;omega,a3,a4,a7,a8,a9,fk _ _ _ _ _ n_m,fk _ _ _ _ _ n_r,fk _ _ _ _ _ n_w,fk _ _ _ _ _ n_v,by simp,n_k.mono fun k _ hd=>fk _ _ _ _ _ hd⟩
 rcases hj with⟨rfl,rfl⟩|⟨rfl,hj⟩
 . rcases hpd with rfl|rfl
   . simp(disch:=omega)only[wk,tupled,↓reduceIte,reduceEqDiff,reduceEq,reduceAdd,reduceCtorEq,E3,E4,E7,E8,E9,n_m,n_r,n_w,n_t,n_n,k3,k4,List.append_nil]
     exact done _ (by simp only[en,↓reduceIte,reduceEqDiff,E3]) (by simp only[en,↓reduceIte,reduceEqDiff,E4]) (by simp only[en,↓reduceIte,reduceEqDiff,E7]) (by simp only[en,↓reduceIte,reduceEqDiff,E8]) (by simp only[en,↓reduceIte,reduceEqDiff]) _ _
   . simp(disch:=omega)only[wk,tupled,↓reduceIte,reduceEqDiff,reduceEq,reduceAdd,reduceCtorEq,E3,E4,E7,E8,E9,n_m,n_r,n_w,n_t,n_n,k3,k4,List.append_nil]
     exact done _ (by simp only[en,↓reduceIte,reduceEqDiff,E3]) (by simp only[en,↓reduceIte,reduceEqDiff,E4]) (by simp only[en,↓reduceIte,reduceEqDiff,E7]) (by simp only[en,↓reduceIte,reduceEqDiff,E8]) (by simp only[en,↓reduceIte,reduceEqDiff]) _ _
 . by_cases hc:(W.length:Int)<=M
   . rw[if_pos hc]at hj
     rcases hM with⟨h1,rfl⟩|⟨h1,rfl⟩<;>rcases hpd with rfl|rfl
     all_goals
       simp(disch:=omega)only[wk,tupled,↓reduceIte,reduceEqDiff,reduceEq,reduceAdd,reduceCtorEq,E3,E4,E7,E8,E9,n_m,n_r,n_w,n_t,n_n,hj,k3,k4,List.append_nil]
       exact done _ (by simp only[en,↓reduceIte,reduceEqDiff,E3]) (by simp only[en,↓reduceIte,reduceEqDiff,E4]) (by simp only[en,↓reduceIte,reduceEqDiff,E7]) (by simp only[en,↓reduceIte,reduceEqDiff,E8]) (by simp only[en,↓reduceIte,reduceEqDiff]) _ _
   . rw[if_neg hc]at hj
     rcases hM with⟨h1,rfl⟩|⟨h1,rfl⟩<;>rcases hpd with rfl|rfl
     all_goals
       simp(disch:=omega)only[wk,tupled,↓reduceIte,reduceEqDiff,reduceEq,reduceAdd,reduceCtorEq,E3,E4,E7,E8,E9,n_m,n_r,n_w,n_t,n_n,hj,k3,k4,List.append_nil]
       exact done _ (by simp only[en,↓reduceIte,reduceEqDiff,E3]) (by simp only[en,↓reduceIte,reduceEqDiff,E4]) (by simp only[en,↓reduceIte,reduceEqDiff,E7]) (by simp only[en,↓reduceIte,reduceEqDiff,E8]) (by simp only[en,↓reduceIte,reduceEqDiff]) _ _
theorem runs_ic (a:AV) (cs:List AV) (h:a= .agg cs) (H:Heap) (ho:allOne cs=true) (hl:cs.length=13):(cbL tabR).ic 12 [a] H=some (.ret (.fn 37 [.ptr H.length 0]),H++[.cells cs]):=by
 subst h
 have:=ic_wp (tab:=tabR) (f:=12) (fi:=c12) (args:=[.agg cs]) (H:=H) (P:=fun o G=>o= .ret (.fn 37 [.ptr H.length 0])/\G=H++[.cells cs]) rfl rfl (by simp[c12]) (by decide) ?_
 . obtain⟨o,G,e1,rfl,rfl⟩:=this
   exact e1
 unfold c12
 simp(disch:=omega)only[wk,tupled,↓reduceIte,reduceEqDiff,reduceEq,reduceAdd,reduceCtorEq,ho]
theorem pruns (a:AV) (H:Heap):pcx (cbL tabR) 12 [a] H=none:=pcx_none rfl (pc_none (fi:=c12) rfl rfl)
theorem spaceRuns_pc {f:Frm} {bl rl fl:List Int} {bv rv fv:AV} (hb:IntR bl bv) (hr:IntR rl rv) (hfl:IntR fl fv) (hz:NzR bl bv) (many:Int):(cbL tabR).pc 3 [useA f bv rv fv,.int .i64 many]=some (.plain (.bool true)):=by
 have lu:lend (useA f bv rv fv)=useA f bv rv fv:=by
   show AV.agg [_,_,_,_,unown bv,unown rv,unown fv]=_
   rw[hb.un,hr.un,hfl.un];rfl
 obtain⟨r,m1,m2,m3⟩:=made_px hb hr hfl (f:=f)
 have mp:=fun H=>pcx_N (H:=H) (show(cbL tabR).lent 8=false from rfl) (toRp m1)
 have ob:=hb.one
 have orr:=hr.one
 have of:=hfl.one
 refine pc_wp (fi:=c3) rfl ?_ (by simp[c3]) (by decide) ?_
 . simp only[pcOn,List.map_cons,List.map_nil,lu,lend_int,c3]
   simp only[useA,hfL,AV.hf,hb.hf,hr.hf,hfl.hf,Bool.and_self]
 unfold c3
 rw[List.map_cons,List.map_cons,List.map_nil,lu,lend_int]
 by_cases hu:okU f bl rl fl
 case neg=>
   rw[m2 hu]at mp
   clear m2 m3
   unfold useA z13 at*
   simp(disch:=omega)only[wk,tupled,↓reduceIte,reduceEqDiff,reduceEq,reduceAdd,reduceCtorEq,mp,ob,orr,of,sworks_px,runG_un,purify,unownT,lend,unown,AV.hf,hfL]
 obtain⟨rt,ns,h1,h2,h3⟩:=m3 hu
 have I:=imgOf hb hr hu h1 h2
 rw[h3]at mp
 have rc:=fun H=>toR (rCheck_px I.fo h1 h2 hb hr I.lb I.lr H)
 obtain⟨w,w1,rr⟩:=rRuns_px I
 have rr:=fun H=>toR (rr H)
 have im:imgC f (mkT rt ns) bv rv=[.int .i64 f.b,.int .i64 f.i,.int .i64 f.r,.int .i64 f.t,.int .u64 5,.int .u64 6,.int .i64 9,.int .i64 (9+f.i/4),.int .i64 (9+f.i/4+f.r/4),.int .i64 (dF f),.sl 7 (mkT rt ns).length (encs tvC (mkT rt ns)) .ro,bv,rv]:=rfl
 have ri:=fun H=>runs_ic (.agg (imgC f (mkT rt ns) bv rv)) _ rfl H (by rw[im];simp only[allOne,one_int,one_sl,ob,orr,Bool.and_self]) rfl
 rw[im]at mp rc rr ri
 unfold useA at*
 have lR:(cbL tabR).lent 12=false:=rfl
 obtain⟨wv,hw,e4⟩:∃wv,RunR (wantM f bl rl) wv/\((okI f bl rl=true/\wv=w)∨(okI f bl rl=false/\wv= .sl 0 0 [] .z)):=by
   unfold wantM
   cases ok:okI f bl rl with
   | true=>
     have hf:=I.fo
     unfold okF at hf
     have rm:=risM_mem ((Bool.and_eq_true _ _).mp (show(risM (9+f.i/4+f.r/4+1) f.b none bl&&risM 1 (f.r+1) none rl)=true from ok)).1
     have hd:dF f+((f.b-dF f).toNat:Nat)=f.b:=by unfold dF;omega
     have e:=runs_gaps bl [] (dF f) (f.b-dF f).toNat rm.2 (fun x hx=>by have:=rm.1 x hx;unfold dF at*;omega) (fun x hx=>by cases hx)
     rw[hd,List.nil_append]at e
     refine⟨w, ?_,.inl ⟨rfl,rfl⟩⟩
     rw[if_pos rfl,<-e]
     exact w1
   |false=>exact⟨.sl 0 0 [] .z,⟨0,.z,rfl,fun h=>absurd rfl h,rfl⟩,.inr ⟨rfl,rfl⟩⟩
 have wl:(wantM f bl rl).length<=1000:=by
   unfold wantM
   split
   . have:∀(l:List Int) (e:Int),(gapM e l).length<=l.length:=by
       intro l
       induction l with
       |nil=>intro e;exact Nat.le_refl _
       | cons b r ih=>
         intro e
         have:=ih (b+1)
         rw[gapM]
         split<;>simp<;>omega
     have:=this (bl++[f.b]) (dF f)
     have:=I.lb
     have h2:(bl++[f.b]).length=bl.length+1:=by simp
     omega
   . simp
 have prod:=fun{vb id N H} J Dn=>runs1_prod (vb:=vb) (id:=id) (N:=N) (H:=H) I hz J Dn
 rw[im]at prod
 obtain⟨C,hC⟩:∃C,C=imgC f (mkT rt ns) bv rv:=⟨_,rfl⟩
 obtain⟨s,tk,ew,hs,htk⟩:=hw
 subst ew
 have fin:∀(rb:Nat) (E':Env) df' H',E' 4= .ptr rb 0->H'[rb]? =some (.cells [.bool false])->Marks H' df'->Ret (cbL tabR) none 79 (Am.Ends tabR [.cell 4 1 false] fun o H=>purify (some (o,H))=some (.plain (.bool true))) [.blk 0,.code (.seq (.region [qc 78 9 [],qs 4 (.t 78)]) .ret)] (.exit 0) E' df' H':=fun rb E' df' H' e4 hr hk=>by
   have h1:(H'.set rb (.cells [.bool true]))[rb]? =some (.cells [.bool true]):=List.getElem?_set_self (List.getElem?_eq_some_iff.1 hr).1
   obtain⟨H'',hlv,hkeep⟩:=leave_marks (tab:=tabR) (cb:=cbL tabR) (u:= .returning) (ds:=df') (H:=H'.set rb (.cells [.bool true])) (hk.mono fun j _ hj=>by rw[List.getElem?_set_ne (by rintro rfl;rw[hr]at hj;cases hj)];exact hj)
   have hr2:=hkeep rb _ h1 (by intro e;cases e)
   simp(disch:=omega)only[wk,tupled,↓reduceIte,reduceEqDiff,reduceEq,reduceAdd,reduceCtorEq,e4,hr,sworks_px]
   rw[ends_left_ret hlv]
   simp(disch:=omega)only[wk,tupled,↓reduceIte,reduceEqDiff,reduceEq,reduceAdd,reduceCtorEq,e4,hr2,purify,unownT,lend,unown,AV.hf,hfL]
 rcases e4 with⟨ok,ew⟩|⟨ok,ew⟩
 . subst ew
   rw[ok]at rc
   simp only[if_true]at rc
   simp(disch:=omega)only[wk,tupled,↓reduceIte,reduceEqDiff,reduceEq,reduceAdd,reduceCtorEq,mp,ob,orr,of,rc,rr,pruns,runE_none lR,ri,fn_nil]
   refine ru_loop (mb:=1) (rb:=2) (wb:=4) (vb:=5) (tb:=6) wl hs many prod (by simp only[en,↓reduceIte,reduceEqDiff]) (by simp only[en,↓reduceIte,reduceEqDiff]) (by simp only[en,↓reduceIte,reduceEqDiff]) (by simp only[en,↓reduceIte,reduceEqDiff]) (by simp only[en,↓reduceIte,reduceEqDiff]) rfl rfl rfl rfl rfl (fin _)
 . rw[ok]at rc
   simp only[Bool.false_eq_true,if_false]at rc
   simp(disch:=omega)only[wk,tupled,↓reduceIte,reduceEqDiff,reduceEq,reduceAdd,reduceCtorEq,mp,ob,orr,of,rc,rr,pruns,runE_none lR,ri,fn_nil]
   refine ru_loop (mb:=1) (rb:=2) (wb:=4) (vb:=5) (tb:=6) wl hs many prod (by simp only[en,↓reduceIte,reduceEqDiff]) (by simp only[en,↓reduceIte,reduceEqDiff]) (by simp only[en,↓reduceIte,reduceEqDiff]) (by simp only[en,↓reduceIte,reduceEqDiff]) (by simp only[en,↓reduceIte,reduceEqDiff]) rfl rfl (by rw[ew];rfl) rfl rfl (fin _)
theorem spaceRunsL {x:List AV} {v:AV} (o:OkL [.int .i64,.int .i64,.int .i64,.int .i64,.slice [.int .i64],.slice [.int .i64],.slice [.int .i64]] x) (o1:OkS (.int .i64) v):(cbL tabR).pc 3 [.agg x,v]=some (.plain (.bool true)):=by
 obtain⟨f,bl,rl,fl,bv,rv,fv,e,hb,hr,hf,hz⟩:=useZ_of o
 obtain⟨n,rfl⟩:=okInt o1
 rw[e]
 exact spaceRuns_pc hb hr hf hz n
end Go.Proofs.YtephfpdnhdpmkaaGreatDoor
