/- REGIONS THAT DRAW THEIR ORDER: in every order that the machine may take, what the interpreter's one order gives. No condition. -/
import Derived.Test.YtephfpdnhdpmkaaGreatDoorAmCode
open Int (reduceEq)
open Nat (reduceEqDiff reduceAdd reduceMul reduceLT reduceLeDiff)
set_option linter.all false
namespace Go.Am
open Go Go.RowKit
set_option linter.unusedSectionVars false
variable [dy]
variable {P:Program} {w0:World} {V:View} {H:ab} {W:World} {tm:List AV} {a:Act}
inductive Ord (ops:Array Oper):Nat->Nat->Prop
 |Lg {j:Nat} {o:Oper} {e:Edge} (ho:ops[j]? =some o) (he:e∈o.after) (hb:Region.binds .any e=true):Ord ops e.on j
 |trans {i j:Nat} {o:Oper} {e:Edge} (ho:ops[j]? =some o) (he:e∈o.after) (hb:Region.binds .any e=true) (h:Ord ops i e.on):Ord ops i j
theorem Bv {α:Type} (n:Nat) (k:Nat->α):C4 n k=k n:=by cases n<;>rfl
theorem uJ {ops:Array Oper} {acc:List Nat} {j:Nat} {o:Oper} (ho:ops[j]? =some o) (hacc:∀k i,(acc.getD k 0).testBit i=true->Ord ops i k):
   ∀(l:List Edge) (s:Nat),(∀e∈l,e∈o.after)->(∀i,s.testBit i=true->Ord ops i j)->∀i,(yv acc l s).testBit i=true->Ord ops i j:=by
 intro l
 induction l with
 |nil=>intro s _ hs i hi;exact hs i hi
 | cons e l ih=>
   intro s hm hs i hi;refine ih _ (fun e' he'=>hm e' (List.mem_cons_of_mem _ he')) ?_ i hi;intro k hk;split at hk
   . rename_i hb;simp only[Nat.testBit_or,Bool.or_eq_true,Nat.testBit_two_pow,decide_eq_true_eq]at hk
     rcases hk with(hk|hk)|hk
     . exact hs k hk
     . subst hk;exact .Lg ho (hm e List.mem_cons_self) hb
     . exact .trans ho (hm e List.mem_cons_self) hb (hacc _ _ hk)
   . exact hs k hk
theorem qC {ops:Array Oper}:∀(l:List Oper) (acc:List Nat),(∀k,l[k]? =ops[acc.length+k]?)->(∀k i,(acc.getD k 0).testBit i=true->Ord ops i k)→
   ∀k i,((kX l acc).getD k 0).testBit i=true->Ord ops i k:=by
 intro l
 induction l with
 |nil=>intro acc _ h;exact h
 | cons o l ih=>
   intro acc hl h;simp only[kX,Bv]
   have h0:ops[acc.length]? =some o:=by simpa using(hl 0).symm
   refine ih _ (fun k=>by have:=hl (k+1);simpa[Nat.add_assoc,Nat.add_comm 1 k] using this) ?_;intro k i hi;by_cases hk:k<acc.length
   . rw[List.getD_eq_getElem?_getD,List.getElem?_append_left hk,<-List.getD_eq_getElem?_getD]at hi;exact h k i hi
   . by_cases hk2:k=acc.length
     . subst hk2;rw[List.getD_eq_getElem?_getD,List.getElem?_append_right (Nat.le_refl _)]at hi;simp at hi;exact uJ h0 h _ 0 (fun e he=>by simpa using he) (fun i hi=>by simp at hi) i hi
     . rw[List.getD_eq_getElem?_getD,List.getElem?_eq_none (by simp;omega)]at hi;simp at hi
def qa (ops:Array Oper) (L:Nat->Bool):Prop:=∀(j:Nat) (o:Oper) (e:Edge),ops[j]? =some o->L j=true->e∈o.after->Region.binds .any e=true->L e.on=true
theorem Ord.listed {ops:Array Oper} {L:Nat->Bool} (hL:qa ops L) {i j:Nat} (h:Ord ops i j):L j=true->L i=true:=by
 induction h with
 |Lg ho he hb=>exact fun hj=>hL _ _ _ ho hj he hb
 |trans ho he hb _ ih=>exact fun hj=>ih (hL _ _ _ ho hj he hb)
theorem Ord.ready {ops:Array Oper} {L:Nat->Bool} (hL:qa ops L) {i j:Nat} (h:Ord ops i j) (hr:∀(o:Oper) (e:Edge),ops[j]? =some o->e∈o.after->Region.binds .any e=true->L e.on=true):L i=true:=by
 cases h with
 |Lg ho he hb=>exact hr _ _ ho he hb
 |trans ho he hb h=>exact h.listed hL (hr _ _ ho he hb)
def bt:List (Option Nat×AV)->(Nat->Bool)->Nat->List AV->List AV
 |[],_,_,tm=>tm
 |(d,v)::r,L,k,tm=>bt r L (k+1) (if L k then bV tm d v else tm)
theorem dV (tm:List AV) (d:Option Nat) (v:AV):(bV tm d v).length=tm.length:=by cases d<;>simp[bV]
theorem dS:∀(ws:List (Option Nat×AV)) (L:Nat->Bool) (k:Nat) (tm:List AV),(bt ws L k tm).length=tm.length
 |[],_,_,_=>rfl
 | (d,v)::r,L,k,tm=>by
   rw[bt,dS r];split
   . exact dV _ _ _
   . rfl
theorem oy {tm:List AV} {d:Option Nat} {v:AV} {t:Nat} (h:d≠some t):(bV tm d v)[t]? =tm[t]? :=by
 cases d with
 |none=>rfl
 |some d=>simp only[bV,List.getElem?_set];rw[if_neg (fun e=>h (by rw[e]))]
theorem lM {tm:List AV} {v:AV} {t:Nat} (h:t<tm.length):(bV tm (some t) v)[t]? =some v:=by simp[bV,h]
theorem cM {t:Nat}:∀(ws:List (Option Nat×AV)) (L L':Nat->Bool) (k:Nat) (tm tm':List AV),tm.length=tm'.length->tm[t]? =tm'[t]? →
   (∀j v,ws[j]? =some (some t,v)->L (k+j)=L' (k+j))->(bt ws L k tm)[t]? =(bt ws L' k tm')[t]?
 |[],_,_,_,_,_,_,h,_=>h
 | (d,v)::r,L,L',k,tm,tm',hl,h,hw=>by
   rw[bt,bt];refine cM r L L' (k+1) _ _ ?_ ?_ (fun j v hj=>by have:=hw (j+1) v (by simpa using hj);simpa[Nat.add_assoc,Nat.add_comm 1 j] using this)
   . split<;>split<;>simp[dV,hl]
   . by_cases hd:d=some t
     . subst hd;have:=hw 0 v rfl;simp only[Nat.add_zero]at this;rw[this];split
       . by_cases ht:t<tm.length
         . rw[lM ht,lM (hl▸ht)]
         . rw[List.getElem?_eq_none (by rw[dV];omega),List.getElem?_eq_none (by rw[dV];omega)]
       . exact h
     . split<;>split<;>simp[oy hd,h]
theorem mw {t:Nat} {v:AV}:∀(ws:List (Option Nat×AV)) (L:Nat->Bool) (k i:Nat) (tm:List AV),ws[i]? =some (some t,v)->L (k+i)=true->t<tm.length→
   (∀j v,i<j->ws[j]? =some (some t,v)->L (k+j)=false)->(bt ws L k tm)[t]? =some v
 |[],_,_,_,_,h,_,_,_=>by simp at h
 | (d,u)::r,L,k,0,tm,h,hL,ht,hl=>by
   simp at h;obtain⟨rfl,rfl⟩:=h;rw[bt]
   have e:(bt r L (k+1) (if L k=true then bV tm (some t) u else tm))[t]? =(bt r (fun _=>false) (k+1) (if L k=true then bV tm (some t) u else tm))[t]? :=
     cM r _ _ _ _ _ rfl rfl (fun j v hj=>by have:=hl (j+1) v (by omega) (by simpa using hj);simpa[Nat.add_assoc,Nat.add_comm 1 j] using this)
   rw[e]
   have none:∀(ws:List (Option Nat×AV)) (k:Nat) (tm:List AV),bt ws (fun _=>false) k tm=tm:=by
     intro ws
     induction ws with
     |nil=>intros;rfl
     |cons w ws ih=>intro k tm;rw[bt];exact ih _ _
   rw[none];simp only[Nat.add_zero]at hL;rw[if_pos hL];exact lM ht
 | (d,u)::r,L,k,i+1,tm,h,hL,ht,hl=>by
   rw[bt];refine mw r L (k+1) i _ (by simpa using h) (by simpa[Nat.add_assoc,Nat.add_comm 1 i] using hL) ?_ (fun j v hj hw=>by have:=hl (j+1) v (by omega) (by simpa using hw);simpa[Nat.add_assoc,Nat.add_comm 1 j] using this);split
   . rw[dV];exact ht
   . exact ht
theorem nq:∀(ws:List (Option Nat×AV)) (L:Nat->Bool) (k:Nat) (tm:List AV),(∀j,L j=false)->bt ws L k tm=tm
 |[],_,_,_,_=>rfl
 | (d,v)::r,L,k,tm,h=>by
   rw[bt,h k];exact nq r L (k+1) tm h
theorem kL:∀(ws:List (Option Nat×AV)) (L:Nat->Bool) (k:Nat) (tm:List AV),bt ws L (k+1) tm=bt ws (fun j=>L (j+1)) k tm
 |[],_,_,_=>rfl
 | (d,v)::r,L,k,tm=>by
   rw[bt,bt];exact kL r L (k+1) _
def eR:List (Option av)->(Nat->Bool)->Nat->ab
 |[],_,_=>[]
 |none::r,L,k=>eR r L (k+1)
 |some sz::r,L,k=>(if L k then sz else .dead)::eR r L (k+1)
def gn (ks:List (Option av)):List av:=ks.filterMap id
theorem iy:∀(ks:List (Option av)) (L L':Nat->Bool) (k:Nat),(∀j sz,ks[j]? =some (some sz)->L (k+j)=L' (k+j))->eR ks L k=eR ks L' k
 |[],_,_,_,_=>rfl
 | none::r,L,L',k,h=>by
   rw[eR,eR];exact iy r L L' (k+1) (fun j sz hj=>by have:=h (j+1) sz (by simpa using hj);simpa[Nat.add_assoc,Nat.add_comm 1 j] using this)
 | some s::r,L,L',k,h=>by
   rw[eR,eR];have h0:=h 0 s rfl;simp only[Nat.add_zero]at h0;rw[h0,iy r L L' (k+1) (fun j sz hj=>by have:=h (j+1) sz (by simpa using hj);simpa[Nat.add_assoc,Nat.add_comm 1 j] using this)]
theorem mQ:∀(ks:List (Option av)) (k:Nat),eR ks (fun _=>false) k=List.replicate (gn ks).length .dead
 |[],_=>rfl
 |none::r,k=>by rw[eR,mQ r];rfl
 |some s::r,k=>by rw[eR,mQ r];rfl
theorem oN {cb:CB}:∀(pre:List ai) (tm tm':List AV) (e e':List av),iW cb H pre tm e=some (tm',e')→
   ∃ (ws:List (Option Nat×AV)) (ks:List (Option av)) (kl:List (Option Nat)) (Es:Nat->List av),ws.length=pre.length/\ks.length=pre.length/\kl.length=pre.length/\tm'=bt ws (fun _=>true) 0 tm/\Es 0=e/\e'=Es pre.length∧
     ∀ (i:Nat) (o:ai),pre[i]? =some o->∃v k,ws[i]? =some (o.dst,v)/\ks[i]? =some k/\kl[i]? =some (bM o (bt ws (fun j=>decide (j<i)) 0 tm))∧
       Es (i+1)=kx H.length (bM o (bt ws (fun j=>decide (j<i)) 0 tm)) (Es i++k.toList)/\ap1 cb H (H++Es i) o (bt ws (fun j=>decide (j<i)) 0 tm) (H.length+(Es i).length)=some (v,k)
 |[],tm,tm',e,e',h=>by cases h;exact⟨[],[],[],fun _=>e,rfl,rfl,rfl,rfl,rfl,rfl,fun i o hi=>by simp at hi⟩
 | o::pre,tm,tm',e,e',h=>by
   rw[iW]at h;split at h
   . rename_i v k hv;obtain⟨ws,ks,kl,Es,h1,h1',h1'',h2,h0,h2',h3⟩:=oN pre _ tm' _ e' h;refine⟨(o.dst,v)::ws,k::ks,bM o tm::kl,(fun i=>match i with|0=>e|i+1=>Es i),by simp[h1],by simp[h1'],by simp[h1''], ?_,rfl, ?_,fun i o' hi=> ?_⟩
     . rw[bt,kL];exact h2
     . rw[h2'];rfl
     . cases i with
       | zero=>
         simp at hi;subst hi;have e0:bt ((o.dst,v)::ws) (fun j=>decide (j<0)) 0 tm=tm:=nq _ _ _ _ (by simp);rw[e0];exact⟨v,k,rfl,rfl,rfl,h0,hv⟩
       | succ i=>
         obtain⟨u,k',k1,k2,k3,k4,k5⟩:=h3 i o' (by simpa using hi)
         have e1:bt ((o.dst,v)::ws) (fun j=>decide (j<i+1)) 0 tm=bt ws (fun j=>decide (j<i)) 0 (bV tm o.dst v):=by
           rw[bt,kL,if_pos (by simp)];simp
         rw[e1];exact⟨u,k',by simpa using k1,by simpa using k2,by simpa using k3,k4,k5⟩
   . cases h
def bG (ks:List (Option av)) (i:Nat):Nat:=(gn (ks.take i)).length
def fe (kl:List (Option Nat)) (h:Nat) (L:Nat->Bool) (p:Nat):Bool:=(List.range kl.length).any fun j=>L j&&decide (kl[j]? =some (some (h+p)))
def dU (ks:List (Option av)) (kl:List (Option Nat)) (h:Nat) (L:Nat->Bool) (i:Nat):Bool:=L i&& !fe kl h L (bG ks i)
theorem cC {kl:List (Option Nat)} {h:Nat} {L:Nat->Bool} {p:Nat}:fe kl h L p=true↔∃j,L j=true/\kl[j]? =some (some (h+p)):=by
 unfold fe;rw[List.any_eq_true];constructor
 . rintro ⟨j,_,hj⟩
   simp only[Bool.and_eq_true,decide_eq_true_eq]at hj;exact⟨j,hj⟩
 . rintro ⟨j,hj,hk⟩
   exact⟨j,List.mem_range.2 (List.getElem?_eq_some_iff.1 hk).1,by simp[hj,hk]⟩
theorem lX {o:av}:∀(ks:List (Option av)) (L:Nat->Bool) (k i:Nat),ks[i]? =some (some o)->(eR ks L k)[bG ks i]? =some (if L (k+i)then o else .dead)
 |[],_,_,_,h=>by simp at h
 |none::r,L,k,0,h=>by simp at h
 | some s::r,L,k,0,h=>by
   simp at h;subst h;rw[eR];rfl
 | none::r,L,k,i+1,h=>by
   rw[eR];have:=lX r L (k+1) i (by simpa using h);simpa[bG,gn,Nat.add_assoc,Nat.add_comm 1 i] using this
 | some s::r,L,k,i+1,h=>by
   rw[eR];have:=lX r L (k+1) i (by simpa using h);simpa[bG,gn,Nat.add_assoc,Nat.add_comm 1 i] using this
theorem fZ:∀(ks:List (Option av)) (L:Nat->Bool) (k:Nat),(eR ks L k).length=(gn ks).length
 |[],_,_=>rfl
 |none::r,L,k=>by rw[eR,fZ r];rfl
 |some s::r,L,k=>by rw[eR,List.length_cons,fZ r];rfl
theorem hU:∀(ks:List (Option av)) (p:Nat),p<(gn ks).length->∃i o,ks[i]? =some (some o)/\bG ks i=p
 |[],p,h=>by simp[gn]at h
 | none::r,p,h=>by
   obtain⟨i,o,h1,h2⟩:=hU r p (by simpa[gn] using h);exact⟨i+1,o,by simpa using h1,by simpa[bG,gn] using h2⟩
 |some s::r,0,h=>⟨0,s,rfl,rfl⟩
 | some s::r,p+1,h=>by
   obtain⟨i,o,h1,h2⟩:=hU r p (by simpa[gn] using h);exact⟨i+1,o,by simpa using h1,by simpa[bG,gn] using h2⟩
theorem lz {o:av}:∀(ks:List (Option av)) (i j:Nat),ks[i]? =some (some o)->i<j->bG ks i<bG ks j
 |[],_,_,h,_=>by simp at h
 |none::r,0,_,h,_=>by simp at h
 |some s::r,0,j+1,h,_=>by simp[bG,gn]
 | none::r,i+1,j+1,h,hij=>by
   have:=lz r i j (by simpa using h) (by omega);simpa[bG,gn] using this
 | some s::r,i+1,j+1,h,hij=>by
   have:=lz r i j (by simpa using h) (by omega);simpa[bG,gn] using this
theorem qj {ks:List (Option av)} {i j:Nat} {o o':av} (hi:ks[i]? =some (some o)) (hj:ks[j]? =some (some o')) (h:bG ks i=bG ks j):i=j:=by
 rcases Nat.lt_trichotomy i j with h1|h1|h1
 . have:=lz ks i j hi h1;omega
 . exact h1
 . have:=lz ks j i hj h1;omega
theorem BF {ks:List (Option av)} {i:Nat} {k:Option av} (h:ks[i]? =some k):bG ks (i+1)=bG ks i+k.toList.length:=by
 unfold bG;rw[List.take_add_one,h]
 cases k<;>simp[gn]
theorem kH {i:Nat}:∀{xs:List X},X.t i∈xs->i∈gZ xs
 | .t j::r,h=>by
   rw[gZ]
   rcases List.mem_cons.1 h with h|h
   . cases h;exact List.mem_cons_self
   . exact List.mem_cons_of_mem _ (kH h)
 | .c _::r,h=>by
   rw[gZ]
   rcases List.mem_cons.1 h with h|h
   . cases h
   . exact kH h
theorem lA {tm tm':List AV} {xs:List X} (h:∀t∈gZ xs,tm[t]? =tm'[t]?):∀x∈xs,x.ev tm=x.ev tm':=by
 intro x hx
 cases x with
 |c v=>rfl
 | t i=>
   have:=h i (kH hx);simp[X.ev,List.getD_eq_getElem?_getD,this]
theorem jH {tm tm':List AV}:∀{ps:List (Nat×Nat×X)},(∀x∈ps.map (·.2.2),x.ev tm=x.ev tm')->evP tm ps=evP tm' ps
 |[],_=>rfl
 | (o,s,x)::r,h=>by
   rw[evP,evP,h x (by simp),jH (fun y hy=>h y (by simp at hy ⊢;exact .inr hy))]
theorem iF {tm tm':List AV} {o:AOp} (h:∀x∈o.xs,x.ev tm=x.ev tm'):aT o tm H=aT o tm' H:=by
 cases o with
 |build zs ps=>simp only[aT];rw[jH h]
 |aX s n zs ps=>simp only[aT];rw[jH h]
 |g8 s n zs ps=>simp only[aT];rw[jH h]
 |fO f caps=>simp only[aT];rw[List.map_congr_left (fun x hx=>h x (by simpa[AOp.xs] using hx))]
 |iT f caps=>simp only[aT];rw[List.map_congr_left (fun x hx=>h x (by simpa[AOp.xs] using hx))]
 | chk l s=>
   simp only[AOp.xs,List.mem_append]at h;simp only[aT];rw[List.map_congr_left (fun x hx=>h x (.inl hx)),List.map_congr_left (l:=s) (fun x hx=>h x (.inr hx))]
 | slice s x lo hi=>
   cases lo<;>cases hi<;>simp[AOp.xs]at h<;>simp only[aT,bound,h]
 | kj n s x lo hi=>
   cases lo<;>cases hi<;>simp[AOp.xs]at h<;>simp only[aT,bound,h]
 | fm x lo hi=>
   cases lo<;>cases hi<;>simp[AOp.xs]at h<;>simp only[aT,bound,h]
 | oq s x lo hi mx=>
   cases lo<;>cases hi<;>cases mx<;>simp[AOp.xs]at h<;>simp only[aT,bound,h]
 |_=>simp[AOp.xs]at h<;>simp only[aT,h]
theorem Cj {tm tm':List AV} {op:AOp} {h g:Nat} {G:ab} (hx:∀x∈op.xs,x.ev tm=x.ev tm'):apX h op tm G g=apX h op tm' G g:=by
 unfold apX;split
 . rename_i sz by' x y;rw[hx x (by simp[AOp.xs]),hx y (by simp[AOp.xs])]
 . rename_i sz by' zs x n;rw[hx x (by simp[AOp.xs]),hx n (by simp[AOp.xs])]
 . rfl
theorem B4 {cb:CB} {G:ab} {tm tm':List AV} {o:ai} {g:Nat} (h:∀t∈o.reads,tm[t]? =tm'[t]?):ap1 cb H G o tm g=ap1 cb H G o tm' g:=by
 have hx:∀x∈o.op.xs,x.ev tm=x.ev tm':=lA (fun t ht=>h t (by
   unfold ai.reads;split
   . exact ht
   . exact List.mem_cons_of_mem _ ht))
 have hw:bC tm o.guard=bC tm' o.guard:=by
   unfold bC;split
   . rfl
   . rename_i g t b hg;rw[h t (by simp[ai.reads,hg])]
 have hargs:∀f args,o.op= .br f args->args.map (·.ev tm)=args.map (·.ev tm'):=fun f args ho=>
   List.map_congr_left (fun x hm=>hx x (by rw[ho];exact hm))
 have hargsv:∀f args,o.op= .cf f args->f.ev tm=f.ev tm'/\args.map (·.ev tm)=args.map (·.ev tm'):=fun f args ho=>
   ⟨hx f (by rw[ho];exact List.mem_cons_self),List.map_congr_left (fun x hm=>hx x (by rw[ho];exact List.mem_cons_of_mem _ hm))⟩
 unfold ap1;rw[hw,iF hx];split
 . split
   . rfl
   . split
     . rfl
     . rename_i ho;rw[iF (H:=G) (fun x hm=>hx x (by rw[ho];exact hm))]
     . rename_i f args ho;rw[hargs f args ho]
     . rename_i f args ho;rw[(hargsv f args ho).1,(hargsv f args ho).2]
     . rename_i f args ho;rw[show args.map (·.ev tm)=args.map (·.ev tm')from List.map_congr_left (fun x hm=>hx x (by rw[ho];exact hm))]
     . rename_i x ho;rw[hx x (by rw[ho];exact List.mem_cons_self)]
     . exact Cj hx
 . rfl
theorem tN {tm tm':List AV} {o:ai} (h:∀t∈o.reads,tm[t]? =tm'[t]?):bM o tm=bM o tm':=by
 have hx:∀x∈o.op.xs,x.ev tm=x.ev tm':=lA (fun t ht=>h t (by
   unfold ai.reads;split
   . exact ht
   . exact List.mem_cons_of_mem _ ht))
 have hw:bC tm o.guard=bC tm' o.guard:=by
   unfold bC;split
   . rfl
   . rename_i g t b hg;rw[h t (by simp[ai.reads,hg])]
 unfold bM;rw[hw];split
 . split
   . rename_i x n ho;rw[hx x (by rw[ho];simp[AOp.xs])]
   . rfl
 . rfl
theorem iM {id:Nat} {x:av} (X:ab) (h:H[id]? =some x):(H++X)[id]? =some x:=by
 rw[List.getElem?_append_left (List.getElem?_eq_some_iff.1 h).1];exact h
theorem xH {o:AOp} {v:AV} (X:ab) (h:aT o tm H=some v):aT o tm (H++X)=some v:=by
 cases o with
 | load sz ag x=>
   simp only[aT]at h ⊢;split at h
   . split at h
     . rename_i hc;rw[iM X hc];exact h
     . cases h
   . exact h
   . cases h
 | lookup kk zero x i ok=>
   simp only[aT]at h ⊢;split at h
   . exact h
   . split at h
     . rename_i hc;rw[iM X hc];exact h
     . cases h
   . cases h
 | len k x=>
   simp only[aT]at h ⊢;split at h
   . exact h
   . exact h
   . exact h
   . exact h
   . exact h
   . split at h
     . rename_i hc;rw[iM X hc];exact h
     . cases h
   . cases h
 |_=>exact h
theorem WR.fill (hW:WR P w0 V H W) {V':View} {W':World} {id:Nat} {o:av} (hid:H[id]? =some .dead) (hs:Stp V W V' W' none) (hi:∀p v,V'.imm p=some v->W'.cell? p=some v/\v.oneCell'=true)
   (hf:∀i,H.length<=i->V'.loc i=none) (ho:mU P w0 V' W' id o) (hb:∀b,aK V' id=some b->W.heap.size<=b):WR P w0 V' (H.set id o) W':=by
 have hlt:id<H.length:=(List.getElem?_eq_some_iff.1 hid).1
 have get:∀(i:Nat) (x:av),(H.set id o)[i]? =some x->(i=id/\x=o)∨(i≠id/\H[i]? =some x):=by
   intro i x hx;rw[List.getElem?_set]at hx;by_cases hi:id=i
   . subst hi;simp[hlt]at hx;exact .inl ⟨rfl,hx.symm⟩
   . rw[if_neg hi]at hx;exact .inr ⟨fun e=>hi e.symm,hx⟩
 have back:∀(i:Nat) (x:av) (b:Nat),H[i]? =some x->x.live=true->aK V' i=some b->aK V i=some b/\b<W.heap.size:=by
   intro i x b hx hl hbi;obtain⟨c,hc,_,hlt⟩:=(hW.obj i x hx).blk hl;have:=fX hs.le hc;rw[hbi]at this;cases this;exact⟨hc,hlt⟩
 refine⟨Below.ik hW.below hs.grown (by simp),hi,fun i x hx=> ?_, ?_,fun i hi'=>hf i (by simpa using hi'),hW.mz⟩
 . rcases get i x hx with⟨rfl,rfl⟩|⟨_,hx⟩
   . exact ho
   . exact(hW.obj i x hx).kept hs (by simp)
 . intro i j x y b hx hy lx ly bx bY
   rcases get i x hx with⟨rfl,rfl⟩|⟨_,hx'⟩<;>rcases get j y hy with⟨rfl,rfl⟩|⟨_,hy'⟩
   . rfl
   . have h1:=hb b bx;have h2:=back j y b hy' ly bY;omega
   . have h1:=hb b bY;have h2:=back i x b hx' lx bx;omega
   . exact hW.inj i j x y b hx' hy' lx ly (back i x b hx' lx bx).1 (back j y b hy' ly bY).1
theorem WR.M4 (hW:WR P w0 V H W) (n:Nat):WR P w0 V (H++List.replicate n .dead) W:=by
 have get:∀(i:Nat) (x:av),(H++List.replicate n .dead)[i]? =some x->x.live=true->H[i]? =some x:=by
   intro i x hx hl;by_cases hi:i<H.length
   . rwa[List.getElem?_append_left hi]at hx
   . rw[List.getElem?_append_right (by omega),List.getElem?_replicate]at hx;split at hx
     . cases hx;cases hl
     . cases hx
 refine⟨hW.below,hW.imm,fun i x hx=> ?_,fun i j x y b hx hy hlx hly hbx hby=>hW.inj i j x y b (get i x hx hlx) (get j y hy hly) hlx hly hbx hby,fun i hi=>hW.fresh i (by simp at hi;omega),hW.mz⟩
 cases hl:x.live with
 |true=>exact hW.obj i x (get i x hx hl)
 |false=>cases x<;>first|(cases hl;done)|trivial
def ff (Hc:ab) (g:Nat):Option av->ab
 |none=>Hc
 |some sz=>Hc.set g sz
theorem CU {o:Oper} {zs:List AV} (hc:cOp P o=some (.alloc zs)):∃t,o.op= .alloc t:=by
 cases ho:o.op
 case makeFunc f a b=>
   exfalso
   cases f<;>simp only[cOp,ho]at hc<;>(try (cases hc;done))
   (repeat' split at hc)<;>simp[Option.map_eq_some_iff]at hc
 case makeMap t r=>exfalso;cases r<;>simp[cOp,ho]at hc
 case slice t x lo hi mx=>
   exfalso
   cases mx with
   | none=>
     simp only[cOp,ho]at hc
     (repeat' split at hc)<;>simp[Option.map_eq_some_iff]at hc
   | some mx=>
     cases hi with
     |none=>simp only[cOp,ho]at hc;cases hc
     | some hi=>
       simp only[cOp,ho]at hc
       (repeat' split at hc)<;>simp[Option.map_eq_some_iff]at hc
 all_goals first
   |exact⟨_,rfl⟩
   |(exfalso;simp only[cOp,ho]at hc;(repeat' split at hc)<;>simp[Option.map_eq_some_iff,Option.bind_eq_some_iff]at hc;done)
   |skip
 case call c=>
   exfalso;simp only[cOp,ho]at hc;obtain⟨callee,args,tys⟩:=c
   cases callee with
   | value f=>
     cases f<;>simp only[cc]at hc
     case func f=>
       split at hc
       . obtain⟨xs,_,hc⟩:=Option.bind_eq_some_iff.1 hc;unfold uf at hc
         split at hc<;>cases hc
       . obtain⟨xs,_,hc⟩:=Option.map_eq_some_iff.1 hc;split at hc
         . cases hc
         . split at hc
           . cases hc
           . split at hc<;>cases hc
     all_goals (split at hc<;>cases hc)
   |invoke r m=>simp[cc]at hc
   | builtin b=>
     cases b<;>simp only[cc]at hc<;>(try (cases hc;done))<;>(repeat' split at hc)<;>first|(cases hc;done)|(simp[Option.map_eq_some_iff]at hc;done)|(simp at hc;(repeat' split at hc)<;>cases hc)
theorem Dh {o:Oper} {sz bytes:Nat} {x' y':X} (hc:cOp P o=some (.og sz bytes x' y')):∃s x t e i z,o.op= .call {callee:= .builtin .append,args:= #[s,x],argTypes:= #[t,t]}/\P.underlying t=some (.slice e)/\P.info? e=some i/\zeroOf P e=some z/\cX s=some x'/\cX x=some y'/\sz=i.size/\bytes=i.bytes:=by
 cases ho:o.op
 case makeFunc f a b=>
   exfalso
   cases f<;>simp only[cOp,ho]at hc<;>(try (cases hc;done))
   (repeat' split at hc)<;>simp[Option.map_eq_some_iff]at hc
 case makeMap t r=>exfalso;cases r<;>simp[cOp,ho]at hc
 case slice t x lo hi mx=>
   exfalso
   cases mx with
   | none=>
     simp only[cOp,ho]at hc
     (repeat' split at hc)<;>simp[Option.map_eq_some_iff]at hc
   | some mx=>
     cases hi with
     |none=>simp only[cOp,ho]at hc;cases hc
     | some hi=>
       simp only[cOp,ho]at hc
       (repeat' split at hc)<;>simp[Option.map_eq_some_iff]at hc
 case call c=>
   simp only[cOp,ho]at hc;obtain⟨callee,args,tys⟩:=c
   cases callee with
   | value f=>
     exfalso
     cases f<;>simp only[cc]at hc
     case func f=>
       split at hc
       . obtain⟨xs,_,hc⟩:=Option.bind_eq_some_iff.1 hc;unfold uf at hc
         split at hc<;>cases hc
       . obtain⟨xs,_,hc⟩:=Option.map_eq_some_iff.1 hc;split at hc
         . cases hc
         . split at hc
           . cases hc
           . split at hc<;>cases hc
     all_goals (split at hc<;>cases hc)
   |invoke r m=>simp[cc]at hc
   | builtin b=>
     cases b
     case append=>
       simp only[cc]at hc;split at hc
       . rename_i x y t u hargs htys;split at hc
         . rename_i htu;subst htu;split at hc
           . rename_i e he;split at hc
             . rename_i i z x1 y1 hi hz hx hy
               have ha:args= #[x,y]:=by rw[<-Array.toList_inj];exact hargs
               have ht:tys= #[t,t]:=by rw[<-Array.toList_inj];exact htys
               subst ha ht;simp only[Option.some.injEq]at hc
               (repeat' split at hc)<;>first|(cases hc;done)|skip
               cases hc;exact⟨x,y,t,e,i,z,rfl,dI he,hi,hz,hx,hy,rfl,rfl⟩
             . cases hc
           . cases hc
         . exfalso
           (repeat' split at hc)<;>simp at hc
           all_goals (split at hc<;>cases hc)
       . cases hc
     all_goals (exfalso;simp only[cc]at hc;first|(cases hc;done)|((repeat' split at hc)<;>first|(cases hc;done)|(simp[Option.map_eq_some_iff]at hc;done)|(simp at hc;(repeat' split at hc)<;>cases hc)))
 all_goals (exfalso;simp only[cOp,ho]at hc;(repeat' split at hc)<;>simp[Option.map_eq_some_iff,Option.bind_eq_some_iff]at hc;done)
theorem py {o:Oper} {sz bytes:Nat} {zs:List AV} {x' y':X} (hc:cOp P o=some (.iA sz bytes zs x' y')):∃s x t tn e i z,o.op= .call {callee:= .builtin .append,args:= #[s,x],argTypes:= #[t,tn]}/\P.underlying t=some (.slice e)/\P.info? e=some i/\zeroOf P e=some z/\cX s=some x'/\cX x=some y'/\sz=i.size/\bytes=i.bytes/\((∃kn,P.underlying tn=some (.int kn)/\zs=z.flat)∨tn=t/\zs=[]):=by
 cases ho:o.op
 case makeFunc f a b=>
   exfalso
   cases f<;>simp only[cOp,ho]at hc<;>(try (cases hc;done))
   (repeat' split at hc)<;>simp[Option.map_eq_some_iff]at hc
 case makeMap t r=>exfalso;cases r<;>simp[cOp,ho]at hc
 case slice t x lo hi mx=>
   exfalso
   cases mx with
   | none=>
     simp only[cOp,ho]at hc
     (repeat' split at hc)<;>simp[Option.map_eq_some_iff]at hc
   | some mx=>
     cases hi with
     |none=>simp only[cOp,ho]at hc;cases hc
     | some hi=>
       simp only[cOp,ho]at hc
       (repeat' split at hc)<;>simp[Option.map_eq_some_iff]at hc
 case call c=>
   simp only[cOp,ho]at hc;obtain⟨callee,args,tys⟩:=c
   cases callee with
   | value f=>
     exfalso
     cases f<;>simp only[cc]at hc
     case func f=>
       split at hc
       . obtain⟨xs,_,hc⟩:=Option.bind_eq_some_iff.1 hc;unfold uf at hc
         split at hc<;>cases hc
       . obtain⟨xs,_,hc⟩:=Option.map_eq_some_iff.1 hc;split at hc
         . cases hc
         . split at hc
           . cases hc
           . split at hc<;>cases hc
     all_goals (split at hc<;>cases hc)
   |invoke r m=>simp[cc]at hc
   | builtin b=>
     cases b
     case append=>
       simp only[cc]at hc;split at hc
       . rename_i x y t u hargs htys;split at hc
         . rename_i htu;subst htu;split at hc
           . rename_i e he;split at hc
             . rename_i i z x1 y1 hi hz hx hy
               have ha:args= #[x,y]:=by rw[<-Array.toList_inj];exact hargs
               have ht:tys= #[t,t]:=by rw[<-Array.toList_inj];exact htys
               subst ha ht;simp only[Option.some.injEq]at hc
               (repeat' split at hc)<;>first|(cases hc;done)|skip
               cases hc;exact⟨x,y,t,t,e,i,z,rfl,dI he,hi,hz,hx,hy,rfl,rfl,.inr ⟨rfl,rfl⟩⟩
             . cases hc
           . cases hc
         . split at hc
           . rename_i e kn he hk;split at hc
             . rename_i i z x1 y1 hi hz hx hy
               have ha:args= #[x,y]:=by rw[<-Array.toList_inj];exact hargs
               have ht:tys= #[t,u]:=by rw[<-Array.toList_inj];exact htys
               subst ha ht;simp only[Option.some.injEq]at hc
               (repeat' split at hc)<;>first|(cases hc;done)|skip
               cases hc;exact⟨x,y,t,u,e,i,z,rfl,dI he,hi,hz,hx,hy,rfl,rfl,.inl ⟨kn,hk,rfl⟩⟩
             . cases hc
           . cases hc
       . cases hc
     all_goals (exfalso;simp only[cc]at hc;first|(cases hc;done)|((repeat' split at hc)<;>first|(cases hc;done)|(simp[Option.map_eq_some_iff]at hc;done)|(simp at hc;(repeat' split at hc)<;>cases hc)))
 all_goals (exfalso;simp only[cOp,ho]at hc;(repeat' split at hc)<;>simp[Option.map_eq_some_iff,Option.bind_eq_some_iff]at hc;done)
theorem WR.MU (hW:WR P w0 V H W) {V':View} {W':World} {id:Nat} {o:av} {row:Option Nat} (hid:H[id]? =some .dead) (hs:Stp V W V' W' row) (hrow:∀(i:Nat) (x:av) (b:Nat),H[i]? =some x->x.live=true->aK V i=some b->some b≠row)
   (hr:∀b,row=some b->w0.heap.size<=b) (hi:∀p v,V'.imm p=some v->W'.cell? p=some v/\v.oneCell'=true) (hf:∀i,H.length<=i->V'.loc i=none) (ho:mU P w0 V' W' id o)
   (hb:∀b,aK V' id=some b->∀(i:Nat) (x:av),H[i]? =some x->x.live=true->aK V i≠some b):WR P w0 V' (H.set id o) W':=by
 have hlt:id<H.length:=(List.getElem?_eq_some_iff.1 hid).1
 have get:∀(i:Nat) (x:av),(H.set id o)[i]? =some x->(i=id/\x=o)∨(i≠id/\H[i]? =some x):=by
   intro i x hx;rw[List.getElem?_set]at hx;by_cases hi:id=i
   . subst hi;simp[hlt]at hx;exact .inl ⟨rfl,hx.symm⟩
   . rw[if_neg hi]at hx;exact .inr ⟨fun e=>hi e.symm,hx⟩
 have back:∀(i:Nat) (x:av) (b:Nat),H[i]? =some x->x.live=true->aK V' i=some b->aK V i=some b:=by
   intro i x b hx hl hbi;obtain⟨c,hc,_⟩:=(hW.obj i x hx).blk hl;have:=fX hs.le hc;rw[hbi]at this;cases this;exact hc
 refine⟨Below.ik hW.below hs.grown hr,hi,fun i x hx=> ?_, ?_,fun i hi'=>hf i (by simpa using hi'),hW.mz⟩
 . rcases get i x hx with⟨rfl,rfl⟩|⟨_,hx⟩
   . exact ho
   . exact(hW.obj i x hx).kept hs (fun hl b hb=>hrow i x b hx hl hb)
 . intro i j x y b hx hy lx ly bx bY
   rcases get i x hx with⟨rfl,rfl⟩|⟨_,hx'⟩<;>rcases get j y hy with⟨rfl,rfl⟩|⟨_,hy'⟩
   . rfl
   . exact absurd (back j y b hy' ly bY) (hb b bx j y hy' ly)
   . exact absurd (back i x b hx' lx bx) (hb b bY i x hx' lx)
   . exact hW.inj i j x y b hx' hy' lx ly (back i x b hx' lx bx) (back j y b hy' ly bY)
theorem WR.vX (hW:WR P w0 V H W) {g:Nat} (hid:H[g]? =some .dead) (hloc:V.loc g=none) {W1:World} (hsz:W1.heap.size=W.heap.size) (hh:W1.heap=W.heap) (hos:W1.os=W.os) (htp:W1.tape=W.tape) (hout:W1.output=W.output) {sz n cap:Nat} {xs:List Value} {cells:Array Value} {e:TypeId} {cs:List AV} (hr:aj V cs xs)
   (hn:cs.length=n*sz) (hcap:n<=cap) (hmax:cap<=maxLen) (hcs:cells.size=cap*sz) (ht:cells.toList.take (n*sz)=xs) (hone:aA cs=true):
   let V':=V.row g (.slice (some ⟨W.heap.size,0,none⟩) n cap) W.heap.size xs
   bO w0 V V'/\WR P w0 V' (H.set g (.tok sz)) (W1.alloc (.cells cells e))/\Rep V' (.sl sz n cs (.own g)) (.slice (some ⟨W.heap.size,0,none⟩) n cap):=by
 intro V'
 have hlen:xs.length=n*sz:=by rw[<-hr.1];exact hn
 have hle:V.Le V':=⟨fun p v hp=>by
     have:=hW.cV p v hp;show(if p.block=W.heap.size/\p.spot=none/\p.off<xs.length then xs[p.off]? else V.imm p)=some v
     rw[if_neg (by omega)];exact hp,
   fun i l hl=>by
     have:i≠g:=fun e=>by rw[e,hloc]at hl;cases hl
     show(if i=g then _ else V.loc i)=some l
     rw[if_neg this]
     exact hl⟩
 have hg:W.grownBy (W1.alloc (.cells cells e)) none:=⟨by simp[World.alloc,hos],by simp[World.alloc,htp],by simp[World.alloc,hout],by simp[hsz],fun k hk _=>by rw[Below.heap_alloc W1 _ k (by omega),hh]⟩
 have hs:Stp V W V' (W1.alloc (.cells cells e)) none:=⟨hle,hg,fun p v hp=>by
   change (if p.block=W.heap.size/\p.spot=none/\p.off<xs.length then xs[p.off]? else V.imm p)=some v at hp;split at hp
   . rename_i hc;exact .inr (.inl (by omega))
   . exact .inl hp⟩
 have hnew:(W1.alloc (.cells cells e)).heap[W.heap.size]? =some (.cells cells e (0,0)):=by rw[<-hsz];exact heap_alloc_new W1 _
 have hrone:=hr.aA hone;refine⟨hs.grow hW.size (by simp),hW.fill hid hs (fun p v hp=> ?_) (fun id hidl=> ?_) ⟨_,e,n,xs,W.heap.size, ?_,⟨hlen,.inr ⟨W.heap.size,cap,cells,rfl,hW.size,hnew,hcap,hmax,hcs,ht⟩⟩,rfl,fun off hoff=> ?_⟩ (fun b hb=> ?_),oE hr hn hcap hle⟩
 . change (if p.block=W.heap.size/\p.spot=none/\p.off<xs.length then xs[p.off]? else V.imm p)=some v at hp;split at hp
   . rename_i hc;obtain⟨b,off,spot⟩:=p;obtain⟨rfl,rfl,hoff⟩:=hc;refine⟨?_,hrone v (List.mem_of_getElem? hp)⟩;simp only[World.cell?,hnew];rw[<-ht,List.getElem?_take]at hp;split at hp
     . simpa using hp
     . cases hp
   . exact⟨hg.cell (hW.imm p v hp).1 (by simp),(hW.imm p v hp).2⟩
 . show(if id=g then _ else V.loc id)=none
   rw[if_neg (by have:=(List.getElem?_eq_some_iff.1 hid).1;omega)];exact hW.fresh id (by omega)
 . show(if g=g then _ else V.loc g)=_
   rw[if_pos rfl]
 . show(if W.heap.size=W.heap.size/\(none:Option Nat)=none/\off<xs.length then xs[off]? else V.imm ⟨W.heap.size,off,none⟩)=none
   rw[if_neg (by omega)]
   cases hp:V.imm ⟨W.heap.size,off,none⟩with
   |none=>rfl
   |some v=>exact absurd (hW.cV _ _ hp) (Nat.lt_irrefl _)
 . have:aK V' g=some W.heap.size:=by simp[aK,V',View.row,Value.ownBlock]
   rw[this]at hb;cases hb;exact Nat.le_refl _
theorem xO (hW:WR P w0 V H W) {p0 g gb n cap m sz:Nat} (hpd:H[p0]? =some .dead) (hpl:V.loc p0=none) {e1:TypeId} {cur:Array Value} {xs news:List Value} {cs ds:List AV}
   (hg:H[g]? =some (.tok sz)) (hl:V.loc g=some (.own (.slice (some ⟨gb,0,none⟩) n cap))) (hge:w0.heap.size<=gb) (hcur:W.heap[gb]? =some (.cells cur e1 (0,0)))
   (hlen:xs.length=n*sz) (htk:cur.toList.take (n*sz)=xs) (hcsz:cur.size=cap*sz) (hcapm:cap<=maxLen) (hspare:∀off,n*sz<=off->V.imm ⟨gb,off,none⟩=none)
   (hxs:aj V cs xs) (hxone:∀v∈xs,v.oneCell'=true) (hnr:aj V ds news) (hnl:news.length=m*sz) (hn1:∀v∈news,v.oneCell'=true) (hroom:n+m<=cap):
   let V':=V.row p0 (.slice (some ⟨gb,0,none⟩) (n+m) cap) gb (xs++news)
   bO w0 V V'/\WR P w0 V' ((H.set g .dead).set p0 (.tok sz)) (W.setRow gb (xs++news++cur.toList.drop (n*sz+news.length)).toArray)∧
     Rep V' (.sl sz (n+m) (cs++ds) (.own p0)) (.slice (some ⟨gb,0,none⟩) (n+m) cap):=by
 intro V';have hlt:gb<W.heap.size:=(Array.getElem?_eq_some_iff.1 hcur).1
 have hbk:aK V g=some gb:=by simp[aK,hl,Value.ownBlock]
 have hl2:(xs++news).length=(n+m)*sz:=by rw[List.length_append,hlen,hnl,Nat.add_mul]
 have seen:∀off v,V.imm ⟨gb,off,none⟩=some v->off<n*sz/\xs[off]? =some v:=by
   intro off v hp
   have hlo:off<n*sz:=by
     apply Nat.lt_of_not_le;intro hge';rw[hspare off hge']at hp;cases hp
   have h1:=(hW.imm _ _ hp).1
   have h2:cur[off]? =some v:=by simpa[World.cell?,hcur] using h1
   refine⟨hlo, ?_⟩;rw[<-htk,List.getElem?_take,if_pos hlo,Array.getElem?_toList,h2]
 have hle:V.Le V':=⟨fun p v hp=>by
     show(if p.block=gb/\p.spot=none/\p.off<(xs++news).length then(xs++news)[p.off]? else V.imm p)=some v
     split
     . rename_i hc;obtain⟨b,off,spot⟩:=p;obtain⟨rfl,rfl,hoff⟩:=hc;obtain⟨h1,h2⟩:=seen off v hp;rw[List.getElem?_append_left (by rw[hlen];exact h1)];exact h2
     . exact hp,
   fun i l hil=>by
     have:i≠p0:=fun e=>by rw[e,hpl]at hil;cases hil
     show(if i=p0 then _ else V.loc i)=some l
     rw[if_neg this]
     exact hil⟩
 have hs:Stp V W V' (W.setRow gb (xs++news++cur.toList.drop (n*sz+news.length)).toArray) (some gb):=⟨hle,bN W gb _,fun p v hp=>by
   change (if p.block=gb/\p.spot=none/\p.off<(xs++news).length then(xs++news)[p.off]? else V.imm p)=some v at hp;split at hp
   . rename_i hc;exact .inr (.inr (by rw[hc.1]))
   . exact .inl hp⟩
 have hnew:=setRow_heap W gb cur (xs++news++cur.toList.drop (n*sz+news.length)).toArray e1 (0,0) hcur;have hK:=hW.kill g
 have hone:∀v∈xs++news,v.oneCell'=true:=fun v hv=>(List.mem_append.1 hv).elim (hxone v) (hn1 v)
 have other:∀(id:Nat) (o:av),(H.set g .dead)[id]? =some o->o.live=true->aK V id≠some gb:=by
   intro id o ho hlo hb;rw[List.getElem?_set]at ho;split at ho
   . split at ho
     . cases ho;cases hlo
     . cases ho
   . rename_i hne;exact hne (hW.inj g id _ o gb hg ho rfl hlo hbk hb)
 have hlenH:(H.set g .dead).length=H.length:=List.length_set
 have hpd':(H.set g .dead)[p0]? =some .dead:=by
   rw[List.getElem?_set];split
   . rename_i h;rw[if_pos (by have:=(List.getElem?_eq_some_iff.1 hpd).1;omega)]
   . exact hpd
 refine⟨hs.grow hW.size (fun b hb=>by cases hb;exact hge),hK.MU hpd' hs (fun id o b ho hlo hb he=> ?_) (fun b hb=>by cases hb;exact hge) (fun p v hp=> ?_) (fun id hid=> ?_) ?_ (fun b hb id o ho hlo=> ?_),oE (hxs.append hnr) (by rw[(hxs.append hnr).1];exact hl2) hroom hle⟩
 . cases he;exact other id o ho hlo hb
 . change (if p.block=gb/\p.spot=none/\p.off<(xs++news).length then(xs++news)[p.off]? else V.imm p)=some v at hp;split at hp
   . rename_i hc;obtain⟨b,off,spot⟩:=p;obtain⟨rfl,rfl,hoff⟩:=hc;refine⟨?_,hone v (List.mem_of_getElem? hp)⟩;simp only[World.cell?,hnew];rw[<-List.getElem?_append_left (l₂:=cur.toList.drop (n*sz+news.length)) hoff]at hp;simpa using hp
   . rename_i hc;obtain⟨h1,h2⟩:=hW.imm p v hp;refine⟨(bN W gb _).cell h1 (fun e=> ?_),h2⟩
     have hblk:p.block=gb:=by simpa using e
     have hspot:p.spot=none:=by
       cases hsp:p.spot with
       |none=>rfl
       | some q=>
         exfalso;unfold World.cell? at h1;rw[hblk,hcur]at h1;simp[hsp]at h1
     obtain⟨b,off,spot⟩:=p;simp only at hblk hspot;subst hblk hspot;have:=(seen off v hp).1;exact hc ⟨rfl,rfl,by rw[hl2,Nat.add_mul];exact Nat.lt_of_lt_of_le this (Nat.le_add_right _ _)⟩
 . rw[hlenH]at hid;show(if id=p0 then _ else V.loc id)=none
   rw[if_neg (by have:=(List.getElem?_eq_some_iff.1 hpd).1;omega)];exact hW.fresh id (by omega)
 . refine⟨_,e1,n+m,xs++news,gb, ?_,⟨hl2,.inr ⟨gb,cap,_,rfl,hge,hnew,hroom,hcapm, ?_, ?_⟩⟩,rfl,fun off hoff=> ?_⟩
   . show(if p0=p0 then _ else V.loc p0)=_
     rw[if_pos rfl]
   . simp only[List.size_toArray,List.length_append,List.length_drop,Array.length_toList,hlen,hcsz,hnl];have:=Nat.mul_le_mul_right sz hroom;rw[Nat.add_mul]at this;omega
   . rw[List.take_left' hl2]
   . show(if gb=gb/\(none:Option Nat)=none/\off<(xs++news).length then(xs++news)[off]? else V.imm ⟨gb,off,none⟩)=none
     rw[if_neg (by omega)];exact hspare off (Nat.le_trans (Nat.mul_le_mul_right _ (Nat.le_add_right _ _)) hoff)
 . have:aK V' p0=some gb:=by simp[aK,V',View.row,Value.ownBlock]
   rw[this]at hb;cases hb;exact other id o ho hlo
def nL (Y:ab):Option Nat->ab
 |none=>Y
 |some g0=>Y.set g0 .dead
theorem wT (hW:WR P w0 V H W) (hT:aj V tm a.tmps.toList) {o:Oper} {bytes:Nat} {s x:Operand} {t e:TypeId} {i:TypeInfo} {z:AV} {s' x':X} {v:AV} {k:Option av} {g:Nat}
   (ho:o.op= .call {callee:= .builtin .append,args:= #[s,x],argTypes:= #[t,t]}) (hu:P.underlying t=some (.slice e)) (hi:P.info? e=some i) (hz:zeroOf P e=some z) (hs:cX s=some s') (hx:cX x=some x') (hb:bytes=i.bytes)
   (h:kR i.size bytes (s'.ev tm) (x'.ev tm) g=some (v,k)) (hid:H[g]? =some .dead) (hloc:V.loc g=none):
   ∃V' W' u,(execOp a.eval o).run P W= .ok (.value u) W'/\Rep V' v u/\bO w0 V V'/\WR P w0 V' (ff H g k) W'/\∀i,i≠g->V'.loc i=V.loc i:=by
 subst hb;obtain⟨zv,i',hi',hzero,hzs,_,_⟩:=bQ (V:=V) hz;rw[hi]at hi';cases hi';have hrs:=aM hT hs;have hrx:=aM hT hx;unfold kR at h;split at h
 case h_2=>cases h
 rename_i sz' n cs tk sz'' m ds tk2 e1 e2;split at h
 case isFalse=>cases h
 rename_i hcnd;obtain⟨hpos,hby,hmx,hm0,rfl,htk,rfl,hds,hone⟩:=hcnd;cases h;rw[e1]at hrs;rw[e2]at hrx
 rcases gB hrx with⟨_,rfl,_⟩|⟨_,_,rfl,_⟩|⟨b,off,capx,fx,hxv,k1,k2,k3,k4,k5⟩
 . exact absurd rfl hm0
 . exact absurd rfl hm0
 obtain⟨vs,hrv,hca⟩:=dH hW k4 k5;have hnr:aj V (ds.take (m*i.size)) (vs.take (m*i.size)):=hrv.take _
 have hnl:(vs.take (m*i.size)).length=m*i.size:=by rw[<-hnr.1,List.length_take];omega
 have hnews:∀w':World,w'.heap=W.heap->∀j u,(vs.take (m*i.size))[j]? =some u->w'.cell? ((⟨b,off,none⟩:Addr).add j)=some u:=by
   intro w' hw' j u hj;rw[bB];rw[List.getElem?_take]at hj;split at hj
   . have:=hca j u hj;simpa[World.cell?,hw'] using this
   . cases hj
 have hcl:(ds.take (m*i.size)).length=m*i.size:=by rw[hnr.1,hnl]
 have key:∀cells:Array Value,cells=(vs.take (m*i.size)).toArray++Builtin.zeroCells zv.cells (grownCap W m 0 e-m)->(Builtin.append_ #[t,t] o.type #[a.eval s,a.eval x]).run P W= .ok (.slice (some ⟨W.heap.size,0,none⟩) m (grownCap W m 0 e)) (W.drew.alloc (.cells cells e))→
     ∃V' W' u,(execOp a.eval o).run P W= .ok (.value u) W'/\Rep V' (.sl i.size m (ds.take (m*i.size)) (.own g)) u/\bO w0 V V'/\WR P w0 V' (ff H g (some (.tok i.size))) W'/\∀i,i≠g->V'.loc i=V.loc i:=by
   intro cells hce hrun
   obtain⟨h1,h2,h3⟩:=hW.vX hid hloc (W1:=W.drew) rfl rfl rfl rfl rfl (e:=e) (sz:=i.size) (n:=m) (cap:=grownCap W m 0 e) hnr hcl (grownCap_ge W m 0 e) (grownCap_le_maxLen W m 0 e (by unfold maxLen;omega))
     (cells:=cells) (by
       subst hce;have:=grownCap_ge W m 0 e;simp only[Array.size_append,List.size_toArray,size_zeroCells,hzs,hnl,<-Nat.add_mul];congr 1
       omega) (by
       subst hce;simp only[Array.toList_append]
       exact List.take_left' hnl) hone
   refine⟨_,_,_,by simp[execOp,ho,resolve,invoke,builtin,hrun],h3,h1,h2,fun j hj=> ?_⟩;show(if j=g then _ else V.loc j)=V.loc j
   rw[if_neg hj]
 generalize hsv:a.eval s=u at hrs
 cases hrs with
 | slnil _=>
   have hrun:=run_append_nil (P:=P) W t o.type e i zv hu hi hzero ⟨b,off,none⟩ m capx _ hnl (hnews W rfl) (by omega) (by omega) (by omega);rw[<-hxv,<-hsv]at hrun;exact key _ rfl hrun
 |slx _ _=>cases htk
 | sl f hn hc hnc hii hh ht=>
   rename_i b0 o0 cap0
   rcases ht with ht|⟨_,hc0,_⟩
   . rw[ht]at htk;cases htk
   subst hc0;have hfit:=growslice_fits (old:=0) (need:=0+m) (bytes:=i.bytes) (by omega) (by rw[Nat.zero_add];omega)
   have hm63:((0+m:Nat):Int)<=9223372036854775807:=by omega
   have hrun:=run_append_grow (P:=P) W t o.type e i zv hu hi hzero ⟨b0,o0,none⟩ 0 0 [] (by simp) (by simp) ⟨b,off,none⟩ m capx _ hnl (hnews W rfl) (by omega) hm63 hfit;simp only[Nat.zero_add]at hrun;rw[<-hxv,<-hsv]at hrun;exact key _ (by simp) hrun
 |slo f hn hnc hl hii hh=>cases htk
theorem HQ (hW:WR P w0 V H W) (hT:aj V tm a.tmps.toList) {o:Oper} {sz bytes:Nat} {s' x':X} {v:AV} {k:Option av} {g:Nat} (hop:cOp P o=some (.og sz bytes s' x')) (h:kR sz bytes (s'.ev tm) (x'.ev tm) g=some (v,k))
   (hid:H[g]? =some .dead) (hloc:V.loc g=none):
   ∃V' W' u,(execOp a.eval o).run P W= .ok (.value u) W'/\Rep V' v u/\bO w0 V V'/\WR P w0 V' (ff H g k) W'/\∀i,i≠g->V'.loc i=V.loc i:=by
 obtain⟨s,x,t,e,i,z,ho,hu,hi,hz,hs,hx,rfl,rfl⟩:=Dh hop;exact wT hW hT ho hu hi hz hs hx rfl h hid hloc
theorem setRow_self (W:World) (g:Nat) (cur:Array Value) (e:TypeId) (h:W.heap[g]? =some (.cells cur e (0,0))):W.setRow g cur=W:=by
 have e1:(W.setRow g cur).heap=W.heap:=by
   apply Array.ext_getElem?;intro i;by_cases hi:i=g
   . subst hi;rw[setRow_heap W i cur cur e (0,0) h,h]
   . unfold World.setRow;simp only[Array.getElem?_modify];rw[if_neg (fun e=>hi e.symm)]
 have e2:W.setRow g cur={W with heap:=(W.setRow g cur).heap}:=rfl;rw[e2,e1]
theorem FP (hW:WR P w0 V H W) (hT:aj V tm a.tmps.toList) {o:Oper} {h0 sz bytes:Nat} {zs:List AV} {s' x':X} {v:AV} {k:Option av} {G:ab} {g:Nat} (hop:cOp P o=some (.iA sz bytes zs s' x')) (h:nC h0 sz bytes zs (s'.ev tm) (x'.ev tm) G g=some (v,k))
   (hid:H[g]? =some .dead) (hloc:V.loc g=none) (hG:∀(g0 sz3:Nat) (sz' n:Nat) (cs:List AV),s'.ev tm= .sl sz' n cs (.own g0)->G[g0]? =some (.tok sz3)->(∃l,V.loc g0=some l)->H[g0]? =some (.tok sz3)):
   ∃V' W' u g0,(∃sz' n cs,s'.ev tm= .sl sz' n cs (.own g0))/\(execOp a.eval o).run P W= .ok (.value u) W'/\Rep V' v u/\bO w0 V V'/\WR P w0 V' (nL (ff H g k) (some g0)) W'/\∀i,i≠g->V'.loc i=V.loc i:=by
 obtain⟨s,x,t,tn,e,i,z,ho,hu,hi,hz,hs,hx,rfl,rfl,htn⟩:=py hop;obtain⟨zv,i',hi',hzero,hzs,hrz,_⟩:=bQ (V:=V) hz;rw[hi]at hi';cases hi'
 have ex:∀u W',(Builtin.append_ #[t,tn] o.type #[a.eval s,a.eval x]).run P W= .ok u W'->(execOp a.eval o).run P W= .ok (.value u) W':=fun u W' h1=>by simp[execOp,ho,resolve,invoke,builtin,h1]
 have hrs:=aM hT hs;have hrx:=aM hT hx;unfold nC at h;split at h
 case h_2=>cases h
 rename_i sz' n cs g0 m ds e1 hm;split at h
 case h_2=>cases h
 rename_i sz3 hg3;split at h
 case isFalse=>cases h
 rename_i hcnd;obtain⟨_,rfl,rfl,hpos,hby,hmx⟩:=hcnd;cases h;have hGg:=hG g0 _ _ _ _ e1 hg3;rw[e1]at hrs;generalize hsv:a.eval s=u at hrs
 cases hrs with
 |sl f hn hc hnc hii hh ht=>rcases ht with ht|⟨ht,_⟩<;>cases ht
 | slo f hn hnc hl hii hh=>
   rename_i gb cap
   have hne:g0≠g:=by
     rintro rfl
     rw[hloc]at hl;cases hl
   have comm:nL (ff H g (some (.tok i.size))) (some g0)=(H.set g0 .dead).set g (.tok i.size):=by
     show(H.set g (.tok i.size)).set g0 .dead=_
     rw[List.set_comm _ _ (fun e=>hne e.symm)]
   have hg:=hGg ⟨_,hl⟩;obtain⟨v1,e1',n1,xs,b1,hl1,hown,hob,hspare⟩:=hW.obj g0 _ hg;rw[hl]at hl1;cases hl1;simp only[Value.ownBlock,Option.some.injEq]at hob;subst hob
   rcases hown.2 with⟨hnil,_⟩|⟨g2,cap2,cur,hv2,hge,hcur,hncap,hcapm,hcsz,htk⟩
   . cases hnil
   cases hv2;have hlen:=hown.1
   have hxs:aj V cs xs:=by
     refine⟨by rw[hn,hlen],fun j y u hy hu=> ?_⟩;have hj:j<cs.length:=(List.getElem?_eq_some_iff.1 hy).1;have h1:=(hW.imm _ _ (hii j hj)).1
     have h2:cur[j]? =some (f j):=by simpa[World.cell?,hcur] using h1
     rw[<-htk,List.getElem?_take]at hu;split at hu
     . rw[Array.getElem?_toList,h2]at hu;cases hu;exact hh j y hy
     . cases hu
   have hxone:∀v∈xs,v.oneCell'=true:=by
     intro v hv;obtain⟨j,hj,rfl⟩:=List.mem_iff_getElem.1 hv
     have hj':j<cs.length:=by rw[hxs.1];exact hj
     have h1:=hW.imm _ _ (hii j hj')
     have h2:cur[j]? =some (f j):=by simpa[World.cell?,hcur] using h1.1
     have h3:xs[j]? =some (f j):=by
       rw[<-htk,List.getElem?_take,if_pos (by rw[<-hlen];exact hj),Array.getElem?_toList,h2]
     have e:xs[j]=f j:=by simpa[hj] using h3
     rw[e];exact h1.2
   have holds:∀j u,xs[j]? =some u->W.cell? ((⟨gb,0,none⟩:Addr).add j)=some u:=hown.cells (g:=gb) rfl
   have key:∀news:List Value,aj V ds news->news.length=m*i.size->(∀v∈news,v.oneCell'=true)→
       (n+m<=cap->(Builtin.append_ #[t,tn] o.type #[a.eval s,a.eval x]).run P W= .ok (.slice (some ⟨gb,0,none⟩) (n+m) cap) (W.setRow gb (xs++news++cur.toList.drop (n*i.size+news.length)).toArray))→
       (¬n+m<=cap->(Builtin.append_ #[t,tn] o.type #[a.eval s,a.eval x]).run P W= .ok (.slice (some ⟨W.heap.size,0,none⟩) (n+m) (grownCap W (n+m) cap e)) (W.drew.alloc (.cells ((xs++news).toArray++Builtin.zeroCells zv.cells (grownCap W (n+m) cap e-(n+m))) e)))→
       ∃V' W' u g0,(∃sz' n cs,s'.ev tm= .sl sz' n cs (.own g0))/\(execOp a.eval o).run P W= .ok (.value u) W'/\Rep V' (.sl i.size (n+m) (cs++ds) (.own g)) u/\bO w0 V V'/\WR P w0 V' (nL (ff H g (some (.tok i.size))) (some g0)) W'/\∀i,i≠g->V'.loc i=V.loc i:=by
     intro news hnr hnl hn1 hin hout;by_cases hroom:n+m<=cap
     . --in place
       obtain⟨h1,h2,h3⟩:=xO hW hid hloc hg hl hge hcur hlen htk hcsz hcapm hspare hxs hxone hnr hnl hn1 hroom;refine⟨_,_,_,g0,⟨_,_,_,e1⟩,ex _ _ (hin hroom),h3,h1,by rw[comm];exact h2,fun j hj=> ?_⟩;show(if j=g then _ else V.loc j)=V.loc j
       rw[if_neg hj]
     . --in a new row
       have hK:=hW.kill g0
       have hidK:(H.set g0 .dead)[g]? =some .dead:=by rw[List.getElem?_set_ne hne];exact hid
       have hl2:(xs++news).length=(n+m)*i.size:=by rw[List.length_append,hlen,hnl,Nat.add_mul]
       have hcap2:=grownCap_ge W (n+m) cap e
       have hone2:aA (cs++ds)=true:=by
         rw[ba];intro x hx';have hall:=hxs.append hnr;obtain⟨j,hj⟩:=List.mem_iff_getElem?.1 hx';obtain⟨u,hu1,hu2⟩:=hall.get hj;rw[<-hu2.one]
         rcases List.mem_append.1 (List.mem_of_getElem? hu1)with h|h
         . exact hxone u h
         . exact hn1 u h
       obtain⟨h1,h2,h3⟩:=hK.vX hidK hloc (W1:=W.drew) rfl rfl rfl rfl rfl (e:=e) (sz:=i.size) (n:=n+m) (cap:=grownCap W (n+m) cap e) (hxs.append hnr) (by rw[(hxs.append hnr).1];exact hl2) hcap2 (grownCap_le_maxLen W (n+m) cap e (by unfold maxLen;omega))
         (cells:=(xs++news).toArray++Builtin.zeroCells zv.cells (grownCap W (n+m) cap e-(n+m))) (by
           simp only[Array.size_append,List.size_toArray,size_zeroCells,hzs,hl2,<-Nat.add_mul];congr 1
           omega) (by
           simp only[Array.toList_append]
           exact List.take_left' hl2) hone2
       refine⟨_,_,_,g0,⟨_,_,_,e1⟩,ex _ _ (hout hroom),h3,h1,by rw[comm];exact h2,fun j hj=> ?_⟩;show(if j=g then _ else V.loc j)=V.loc j
       rw[if_neg hj]
   unfold Jq at hm;split at hm
   . --a row
     rename_i sz2 m' ds' tk2 e2;split at hm
     case isFalse=>cases hm
     rename_i hcnd;obtain⟨hze,hsz,hdl,hone⟩:=hcnd;cases hm;rw[e2]at hrx
     have htt:tn=t:=by
       rcases htn with⟨kn,hk,hzz⟩|⟨h1,_⟩
       . exfalso;have h1:=hrz.flat.1;rw[<-hzz,List.isEmpty_iff.1 hze]at h1;simp only[Array.length_toList,hzs,List.length_nil]at h1;omega
       . exact h1
     subst htt;by_cases hm0:m=0
     . subst hm0
       have hne0:(Builtin.append_ #[tn,tn] o.type #[a.eval s,a.eval x]).run P W= .ok (.slice (some ⟨gb,0,none⟩) n cap) W:=by
         rw[hsv]
         rcases gB hrx with⟨hxv,_⟩|⟨_,hxv,_⟩|⟨b,off,capx,fx,hxv,_⟩<;>rw[hxv]<;>
           simp[Builtin.append_,run_underlying hu,sizeOf,typeInfo,hi,Builtin.lenOf,Builtin.firstCells,loadCells,loadCellsFrom,hnc,storeCells]
       have hk:=key [] (by rw[Nat.zero_mul,List.take_zero];exact⟨rfl,fun j y u hy=>by simp at hy⟩) (by simp) (by simp) (fun _=>by
         rw[hne0]
         have e1:W.setRow gb (xs++[]++cur.toList.drop (n*i.size+([]:List Value).length)).toArray=W:=by
           rw[List.append_nil,List.length_nil,Nat.add_zero,<-htk,List.take_append_drop,Array.toArray_toList];exact setRow_self W gb cur e1' hcur
         rw[e1,Nat.add_zero]) (fun hno=>absurd hnc (by simpa using hno))
       exact hk
     rcases gB hrx with⟨_,rfl,_⟩|⟨_,_,rfl,_⟩|⟨b,off,capx,fx,hxv,k1,k2,k3,k4,k5⟩
     . exact absurd rfl hm0
     . exact absurd rfl hm0
     obtain⟨vs,hrv,hca⟩:=dH hW k4 k5;have hnr:aj V (ds'.take (m*i.size)) (vs.take (m*i.size)):=hrv.take _
     have hnl:(vs.take (m*i.size)).length=m*i.size:=by rw[<-hnr.1,List.length_take];omega
     have hnews:∀w':World,w'.heap=W.heap->∀j u,(vs.take (m*i.size))[j]? =some u->w'.cell? ((⟨b,off,none⟩:Addr).add j)=some u:=by
       intro w' hw' j u hj;rw[bB];rw[List.getElem?_take]at hj;split at hj
       . have:=hca j u hj;simpa[World.cell?,hw'] using this
       . cases hj
     have hn1:=hnr.aA hone;refine key _ hnr hnl hn1 (fun hroom=> ?_) (fun hroom=> ?_)
     . have hfit:n*i.size+(vs.take (m*i.size)).length<=cur.size:=by rw[hnl,hcsz,<-Nat.add_mul];exact Nat.mul_le_mul_right _ hroom
       have hrun:=iJ (P:=P) (W:=W) (ty:=o.type) tn e i hu hi gb n cap cur e1' hcur ⟨b,off,none⟩ m capx _ hnl (hnews W rfl) hn1 hroom hfit;rw[<-hxv,htk]at hrun;rw[hsv];exact hrun
     . have hrun:=run_append_grow (P:=P) W tn o.type e i zv hu hi hzero ⟨gb,0,none⟩ n cap xs hlen holds ⟨b,off,none⟩ m capx _ hnl (hnews W rfl) (by omega) (by omega) (growslice_fits (by omega) (by omega));rw[<-hxv]at hrun;rw[hsv,hrun];simp
   . --zeros
     split at hm
     case h_2=>cases hm
     rename_i m1 hmn;split at hm
     case isFalse=>cases hm
     rename_i hm0;cases hm;obtain⟨kl,_,e2,_,hzl,hzone,hmb,hm2⟩:=gz hmn
     obtain⟨kn,hun,rfl⟩:∃kn,P.underlying tn=some (.int kn)/\zs=z.flat:=by
       rcases htn with h1|⟨_,h1⟩
       . exact h1
       . subst h1;simp at hzl;omega
     rw[e2]at hrx;have hxv:=bu hrx;have hz1:∀u∈zv.cells.toList,u.oneCell'=true:=hrz.flat.aA hzone;have hnr:aj V (bX m z.flat) (Builtin.zeroCells zv.cells m).toList:=mF hrz.flat m
     have hnl:(Builtin.zeroCells zv.cells m).toList.length=m*i.size:=by rw[Array.length_toList,size_zeroCells,hzs]
     have hn1:∀u∈(Builtin.zeroCells zv.cells m).toList,u.oneCell'=true:=by
       intro u hu'
       rcases Nat.eq_zero_or_pos zv.cells.size with h|h
       . have:(Builtin.zeroCells zv.cells m).toList=[]:=by simp[Builtin.zeroCells,h,Array.range_zero']
         rw[this]at hu';simp at hu'
       . simp only[Builtin.zeroCells,Array.toList_map,List.mem_map]at hu';obtain⟨k,_,rfl⟩:=hu';have hk:k % zv.cells.size<zv.cells.size:=Nat.mod_lt _ h;rw[getElem!_pos zv.cells _ hk];exact hz1 _ (by simp)
     refine key _ hnr hnl hn1 (fun hroom=> ?_) (fun hroom=> ?_)
     . have hfit:n*i.size+m*i.size<=cur.size:=by rw[hcsz,<-Nat.add_mul];exact Nat.mul_le_mul_right _ hroom
       have hrun:=eU (P:=P) (W:=W) t tn o.type e i zv kl kn hu hun hi hzero hzs gb n cap m cur e1' hcur hz1 hmb hm2 hroom hfit;rw[<-hxv,htk,<-hnl]at hrun;rw[hsv];exact hrun
     . have hfc:=run_firstCells_some (P:=P) W.drew i.size n ⟨gb,0,none⟩ n cap xs hlen holds;have hrun:=Lib.run_append_grow_zeros (P:=P) W t tn o.type e i zv kl kn hu hun hi hzero (some ⟨gb,0,none⟩) n cap xs hfc m (by omega) hpos (by omega) (by omega) (by omega) (growslice_fits (by omega) (by omega));rw[<-hxv]at hrun;rw[hsv,hrun];rw[show(xs++(Builtin.zeroCells zv.cells m).toList).toArray=xs.toArray++Builtin.zeroCells zv.cells m from by apply Array.ext';simp]
theorem yH {h0 sz bytes:Nat} {zs:List AV} {x n:AV} {G:ab} {g:Nat} {r:AV×Option av} (h:ry h0 sz bytes zs x n G g=some r):
   (∃sz' k cs g0,x= .sl sz' k cs (.own g0)/\nC h0 sz bytes zs x n G g=some r)∨((∀sz' k cs g0,x≠ .sl sz' k cs (.own g0))/\zs.isEmpty=true/\kR sz bytes x n g=some r):=by
 unfold ry at h;split at h
 . exact .inl ⟨_,_,_,_,rfl,h⟩
 . rename_i hno;split at h
   . exact .inr ⟨fun a b c d e=>hno a b c d e,by assumption,h⟩
   . cases h
theorem Dw (hW:WR P w0 V H W) (hT:aj V tm a.tmps.toList) {o:Oper} {sz bytes:Nat} {zs:List AV} {s' x':X} {v:AV} {k:Option av} {g:Nat} (hop:cOp P o=some (.iA sz bytes zs s' x')) (hzs:zs.isEmpty=true) (h:kR sz bytes (s'.ev tm) (x'.ev tm) g=some (v,k))
   (hid:H[g]? =some .dead) (hloc:V.loc g=none):
   ∃V' W' u,(execOp a.eval o).run P W= .ok (.value u) W'/\Rep V' v u/\bO w0 V V'/\WR P w0 V' (ff H g k) W'/\∀i,i≠g->V'.loc i=V.loc i:=by
 obtain⟨s,x,t,tn,e,i,z,ho,hu,hi,hz,hs,hx,rfl,rfl,htn⟩:=py hop
 have htt:tn=t:=by
   rcases htn with⟨kn,hk,hzz⟩|⟨h1,_⟩
   . exfalso;obtain⟨zv,i',hi',hzero,hzs',hrz,_⟩:=bQ (V:=V) hz;rw[hi]at hi';cases hi';have h1:=hrz.flat.1;rw[<-hzz,List.isEmpty_iff.1 hzs]at h1;simp only[Array.length_toList,hzs',List.length_nil]at h1;unfold kR at h;split at h
     . split at h
       . rename_i hc;omega
       . cases h
     . cases h
   . exact h1
 subst htt;exact wT hW hT ho hu hi hz hs hx rfl h hid hloc
theorem GK {o:Oper} {x:X} (hc:cOp P o=some (.rb x)):∃t y,o.op= .box t y/\cX y=some x:=by
 cases ho:o.op
 case box t y=>
   simp only[cOp,ho]at hc;obtain⟨z,hz,e⟩:=Option.map_eq_some_iff.1 hc;split at e
   . cases e;exact⟨t,y,rfl,hz⟩
   . split at e<;>cases e
 case makeFunc f a b=>
   exfalso
   cases f<;>simp only[cOp,ho]at hc<;>(try (cases hc;done))
   (repeat' split at hc)<;>simp[Option.map_eq_some_iff]at hc
 case makeMap t r=>exfalso;cases r<;>simp[cOp,ho]at hc
 case slice t x lo hi mx=>
   exfalso
   cases mx with
   | none=>
     simp only[cOp,ho]at hc
     (repeat' split at hc)<;>simp[Option.map_eq_some_iff]at hc
   | some mx=>
     cases hi with
     |none=>simp only[cOp,ho]at hc;cases hc
     | some hi=>
       simp only[cOp,ho]at hc
       (repeat' split at hc)<;>simp[Option.map_eq_some_iff]at hc
 all_goals first
   |(exfalso;simp only[cOp,ho]at hc;(repeat' split at hc)<;>simp[Option.map_eq_some_iff,Option.bind_eq_some_iff]at hc;done)
   |skip
 case call c=>
   exfalso;simp only[cOp,ho]at hc;obtain⟨callee,args,tys⟩:=c
   cases callee with
   | value f=>
     cases f<;>simp only[cc]at hc
     case func f=>
       split at hc
       . obtain⟨xs,_,hc⟩:=Option.bind_eq_some_iff.1 hc;unfold uf at hc
         split at hc<;>cases hc
       . obtain⟨xs,_,hc⟩:=Option.map_eq_some_iff.1 hc;split at hc
         . cases hc
         . split at hc
           . cases hc
           . split at hc<;>cases hc
     all_goals (split at hc<;>cases hc)
   |invoke r m=>simp[cc]at hc
   | builtin b=>
     cases b<;>simp only[cc]at hc<;>(try (cases hc;done))<;>(repeat' split at hc)<;>first|(cases hc;done)|(simp[Option.map_eq_some_iff]at hc;done)|(simp at hc;(repeat' split at hc)<;>cases hc)
theorem J6 {cb:CB} (hcb:fD P cb) {ro:Option Nat} {ops:Array Oper} {o:Oper} {ao:ai} {fr:Fr} {Q:Exit->Act->World->Prop} {next:Act->World->Prop} {v:AV} {k:Option av} {g:Nat} {X G:ab}
   (hG:∀id es,G[id]? =some (.map es)->(∃l,V.loc id=some l)->(H++X)[id]? =some (.map es))
   (hc:dE P ops o=some ao) (hF:FrR V fr a) (hW:WR P w0 V (H++X) W) (h:ap1 cb H G ao fr.tm g=some (v,k)) (nf:∀a b x y,ao.op≠ .og a b x y) (ng:∀a b zs x y,ao.op≠ .iA a b zs x y) (hg:∀sz,k=some sz->(H++X)[g]? =some .dead/\V.loc g=none)
   (hn:∀V' a' W',bO w0 V V'->WR P w0 V' (ff (H++X) g k) W'->(∀i,k=none∨i≠g->V'.loc i=V.loc i)->FrR V' {fr with tm:=bV fr.tm ao.dst v} a'->next a' W'):
   if Region.wanted o (yielded ops a.tmps)then o.wpIn (Fk ro) 0 P a W next Q else(∀f,o.about P W a.eval=some f->(Fk ro).fn f)/\next (a.put o.dst undef) W:=by
 obtain⟨hop,hdst⟩:=gI hc;rw[fH hF.tm hc,hdst];unfold ap1 at h;split at h
 . rename_i hw;rw[if_pos hw];refine⟨fun _ _=>trivial, ?_⟩;split at h
   . rename_i u hv;cases h;have hnd:=cr hop (by rintro x xs hx;rw[hx]at hv;cases hv);obtain⟨V',W',u,h1,h2,h3,h4,h5⟩:=gy hW hF.tm hop (xH X hv);rw[Oper.semAt_eq _ _ _ hnd,h1,Oper.uponIn_value,hdst];exact hn V' _ W' (h3.grow hW.size (by simp)) h4 (fun i _=>by rw[h5]) (bJ hF h3.le h2 _)
   . have core:∀(f:FuncId) (as:List AV),bI ao.op fr.tm (H++X)=some (.enter f as,H++X)->(match pcx cb f as H with|some (.plain v)=>some (v,none)|some (.fresh sz n cs)=>some (.sl sz n cs (.own g),some (.tok sz))|some (.ir es)=>some (.mp g,some (.map es))|_=>none)=some (v,k)->Oper.uponIn (Fk ro) 0 P o a next Q (Sem.run P (Oper.semAt (Fk ro).round a.eval o) W):=by
       intro f as hact h;have hnd:=cr hop (by rintro x xs hx;rw[hx]at hact;simp only[bI]at hact;split at hact<;>cases hact);obtain⟨_,us,h1,h2⟩:=cu (nx:= .enter f as) (H':=H++X) hW hF.tm hop hact;rw[Oper.semAt_eq _ _ _ hnd,h1];split at h
       . rename_i u hp;cases h;obtain⟨k1,k2⟩:=ix hcb hW (fun _ _ h=>iM X h) h2 hp;rw[k1,Oper.uponIn_enter];refine⟨by simp[Fk],da (k2.mono ?_)⟩
         rintro e W' ⟨I,j1,j2,j3,j4,j5⟩
         have hs:Stp V W ⟨I,V.loc⟩ W' none:=⟨⟨j3,fun _ _ h=>h⟩,cZ j1,fun p v hp=>(j4 p v hp).elim .inl (fun h=> .inr (.inl h))⟩
         cases e with
         | returned u=>
           show next (a.put o.dst u) W'
           rw[hdst];exact hn ⟨I,V.loc⟩ _ W' (hs.grow hW.size (by simp)) (hW.step hs j2 hW.fresh) (fun _ _=>rfl) (bJ hF hs.le j5 _)
         |panicked _=>exact j5.elim
         |outgrown=>exact j5.elim
       . rename_i sz n cs hp;cases h;obtain⟨hdead,hgl⟩:=hg (.tok sz) rfl;have hglt:g<(H++X).length:=(List.getElem?_eq_some_iff.1 hdead).1;obtain⟨k1,k2⟩:=ix hcb hW (fun _ _ h=>iM X h) h2 hp;rw[k1,Oper.uponIn_enter];refine⟨by simp[Fk],da (k2.mono ?_)⟩
         rintro e W' ⟨I,j1,j2,j3,j4,j5⟩
         cases e with
         | returned u=>
           obtain⟨e',xs,b,cap,rfl,hown,hsp,_,hrep⟩:=j5
           let V':View:=⟨I,fun i=>if i=g then some (.own (.slice (some ⟨b,0,none⟩) n cap))else V.loc i⟩
           have hloc:∀i l,V.loc i=some l->V'.loc i=some l:=by
             intro i l hl
             have:i≠g:=fun e=>by rw[e,hgl]at hl;cases hl
             show(if i=g then _ else V.loc i)=some l
             rw[if_neg this];exact hl
           have hself:V'.loc g=some (.own (.slice (some ⟨b,0,none⟩) n cap)):=by simp[V']
           have hs:Stp V W V' W' none:=⟨⟨j3,hloc⟩,cZ j1,fun p v hp=>(j4 p v hp).elim .inl (fun h=> .inr (.inl h))⟩;have hbb:=hown.lt b rfl
           have hown':W'.ownsRow w0.heap.size e' sz (.slice (some ⟨b,0,none⟩) n cap) n xs:=by
             refine⟨hown.1, ?_⟩
             rcases hown.2 with h|⟨g,cap',cur,h1,h2,h3⟩
             . exact .inl h
             . exact .inr ⟨g,cap',cur,h1,Nat.le_trans hW.size h2,h3⟩
           have hW':WR P w0 V' ((H++X).set g (.tok sz)) W':=by
             refine hW.fill hdead hs j2 (fun i hi=> ?_) ⟨_,e',n,xs,b,hself,hown',rfl,hsp⟩ (fun c hc=> ?_)
             . show(if i=g then _ else V.loc i)=none
               rw[if_neg (by omega)];exact hW.fresh i hi
             . simp only[aK,hself,Value.ownBlock,Option.some.injEq]at hc;omega
           show next (a.put o.dst _) W'
           rw[hdst];refine hn V' _ W' (hs.grow hW.size (by simp)) hW' (fun i hi=> ?_) (bJ hF hs.le (hrep _ _ hloc hself) _);have hig:i≠g:=hi.resolve_left (by simp);show(if i=g then _ else V.loc i)=_
           rw[if_neg hig]
         |panicked _=>exact j5.elim
         |outgrown=>exact j5.elim
       . rename_i es hp;cases h;obtain⟨hdead,hgl⟩:=hg (.map es) rfl;have hglt:g<(H++X).length:=(List.getElem?_eq_some_iff.1 hdead).1;obtain⟨k1,k2⟩:=ix hcb hW (fun _ _ h=>iM X h) h2 hp;rw[k1,Oper.uponIn_enter];refine⟨by simp[Fk],da (k2.mono ?_)⟩
         rintro e W' ⟨I,j1,j2,j3,j4,j5⟩
         cases e with
         | returned u=>
           obtain⟨b,ents,clk,rfl,hge,hh,hst,hrep⟩:=j5
           let V':View:=⟨I,fun i=>if i=g then some (.blk b)else V.loc i⟩
           have hloc:∀i l,V.loc i=some l->V'.loc i=some l:=by
             intro i l hl
             have:i≠g:=fun e=>by rw[e,hgl]at hl;cases hl
             show(if i=g then _ else V.loc i)=some l
             rw[if_neg this];exact hl
           have hself:V'.loc g=some (.blk b):=by simp[V']
           have hs:Stp V W V' W' none:=⟨⟨j3,hloc⟩,cZ j1,fun p v hp=>(j4 p v hp).elim .inl (fun h=> .inr (.inl h))⟩
           have hW':WR P w0 V' ((H++X).set g (.map es)) W':=by
             refine hW.fill hdead hs j2 (fun i hi=> ?_) ⟨b,ents,clk,hself,Nat.le_trans hW.size hge,hh,(hrep _).1,(hrep _).2,hst⟩ (fun c hc=> ?_)
             . show(if i=g then _ else V.loc i)=none
               rw[if_neg (by omega)];exact hW.fresh i hi
             . simp only[aK,hself,Option.some.injEq]at hc;omega
           show next (a.put o.dst _) W'
           rw[hdst];refine hn V' _ W' (hs.grow hW.size (by simp)) hW' (fun i hi=> ?_) (bJ hF hs.le (.mp hself) _);have hig:i≠g:=hi.resolve_left (by simp);show(if i=g then _ else V.loc i)=_
           rw[if_neg hig]
         |panicked _=>exact j5.elim
         |outgrown=>exact j5.elim
       . cases h
     split at h
     . rename_i zs ho;cases h;obtain⟨hdead,hgl⟩:=hg (.cells zs) rfl;have hglt:g<(H++X).length:=(List.getElem?_eq_some_iff.1 hdead).1;rw[ho]at hop;obtain⟨t,hot⟩:=CU hop;have hop2:=hop;simp only[cOp,hot]at hop2;split at hop2
       case h_2=>cases hop2
       rename_i z hz;split at hop2
       case isFalse=>cases hop2
       rename_i hone;cases hop2;obtain⟨zv,i,hi,hzero,hsz,hrz,hrun⟩:=bQ (V:=V) hz
       have hrun2:(Instr.alloc t true (.tuple #[])).run P W= .ok (.pointer (some ⟨W.heap.size,0,none⟩)) (W.alloc (.cells zv.cells t)):=by
         simp[Instr.alloc,hrun W,newVar,newRow]
       have h1:(execOp a.eval o).run P W= .ok (.value (.pointer (some ⟨W.heap.size,0,none⟩))) (W.alloc (.cells zv.cells t)):=by
         simpa[execOp,hot] using cP hrun2
       have hnd:∀c,o.op≠ .defer c:=by rw[hot];intro c e;cases e
       rw[Oper.semAt_eq _ _ _ hnd,h1,Oper.uponIn_value,hdst];have hs:Stp V W (V.at g (.blk W.heap.size)) (W.alloc (.cells zv.cells t)) none:=⟨View.se hgl _,World.grownBy_alloc W _ none,fun _ _ hp=> .inl hp⟩
       have hW':WR P w0 (V.at g (.blk W.heap.size)) ((H++X).set g (.cells z.flat)) (W.alloc (.cells zv.cells t)):=by
         have hrf:=hrz.flat;refine hW.fill hdead hs (jP hW _) (fun i hi=> ?_) ⟨W.heap.size,zv.cells,t,View.iv _ _ _,hW.size,heap_alloc_new W _,hrf.whole.mono hs.le,hrf.whole.aA hone,fun off=> ?_,fun b' sz cap he=> ?_⟩ (fun c hc=> ?_)
         . show(if i=g then _ else V.loc i)=none
           rw[if_neg (by omega)];exact hW.fresh i hi
         . cases hp:(V.at g (.blk W.heap.size)).imm ⟨W.heap.size,off,none⟩with
           |none=>rfl
           |some v=>exact absurd (hW.cV _ _ hp) (Nat.lt_irrefl _)
         . rw[View.b8]at he;cases he
         . rw[View.iv]at hc;cases hc;exact Nat.le_refl _
       refine hn _ _ _ (hs.grow hW.size (by simp)) hW' (fun i hi=> ?_) (bJ hF hs.le (.ptr (View.iv _ _ _)) _);have hig:i≠g:=hi.resolve_left (by simp);show(if i=g then _ else V.loc i)=_
       rw[if_neg hig]
     . rename_i kk zero i0 key ok ho;obtain⟨u0,hv,e⟩:=Option.map_eq_some_iff.1 h;cases e
       have hv2:aT ao.op fr.tm (H++X)=some v:=by
         rw[ho]
         have hr:∃q,Rep V (fr.tm.getD i0 (.tup [])) q:=by
           rw[List.getD_eq_getElem?_getD]
           cases hq:fr.tm[i0]? with
           |none=>exact⟨_,Rep.undef V⟩
           |some y=>obtain⟨q,_,hq2⟩:=hF.tm.get hq;exact⟨q,hq2⟩
         obtain⟨q,hr⟩:=hr;simp only[aT,show(Go.Am.X.t i0).ev fr.tm=fr.tm.getD i0 (.tup [])from rfl]at hv ⊢;split at hv
         . exact hv
         . rename_i id he;rw[he]at hr;split at hv
           . rename_i es hg
             have:(H++X)[id]? =some (.map es):=hG id _ hg (by
               cases hr
               exact⟨_,by assumption⟩)
             simp only[this];exact hv
           . cases hv
         . cases hv
       have hnd:=cr hop (by rintro x xs hx;rw[hx]at ho;cases ho);obtain⟨V',W',u,h1,h2,h3,h4,h5⟩:=gy hW hF.tm hop hv2;rw[Oper.semAt_eq _ _ _ hnd,h1,Oper.uponIn_value,hdst];exact hn V' _ W' (h3.grow hW.size (by simp)) h4 (fun i _=>by rw[h5]) (bJ hF h3.le h2 _)
     . rename_i f args ho;exact core f _ (by rw[ho];rfl) h
     . rename_i x args ho;split at h
       . rename_i f as hcal;refine core f as ?_ h;rw[ho];simp only[bI];revert hcal
         cases x.ev fr.tm<;>simp only[gR]<;>intro hcal<;>cases hcal<;>rfl
       . cases h
     . rename_i f args ho;split at h
       case h_2=>cases h
       rename_i sz n cs hp;split at h
       case isFalse=>cases h
       rename_i hcnd;simp only[Bool.and_eq_true,List.all_eq_true,beq_iff_eq]at hcnd;obtain⟨hsc,hlen⟩:=hcnd;cases h;obtain⟨hdead,hgl⟩:=hg (.cells cs) rfl;have hglt:g<(H++X).length:=(List.getElem?_eq_some_iff.1 hdead).1
       have hact:bI ao.op fr.tm (H++X)=some (.dO false f (args.map (·.ev fr.tm)),H++X):=by rw[ho];rfl
       have hnd:=cr hop (by rintro x xs hx;rw[hx]at ho;cases ho);obtain⟨_,us,h1,h2⟩:=cu (nx:= .dO false f (args.map (·.ev fr.tm))) (H':=H++X) hW hF.tm hop hact;rw[Oper.semAt_eq _ _ _ hnd,h1];obtain⟨k1,k2⟩:=ix hcb hW (fun _ _ h=>iM X h) h2 hp;rw[k1,Oper.uponIn_enter];refine⟨by simp[Fk],da (k2.mono ?_)⟩
       rintro e W' ⟨I,j1,j2,j3,j4,j5⟩
       cases e with
       |panicked _=>exact j5.elim
       |outgrown=>exact j5.elim
       | returned u=>
         obtain⟨e',xs,b,cap,rfl,hown,hsp,hro,_⟩:=j5;have hbb:=hown.lt b rfl
         rcases hown.2 with⟨hnil,_⟩|⟨b',cap',cur,hv,hge,hcur,hnc,hcm,hcs,htk⟩
         . cases hnil
         cases hv
         let V':View:=⟨fun p=>if p.block=b then none else I p,fun i=>if i=g then some (.blk b)else V.loc i⟩
         have hold:∀p v,V.imm p=some v->p.block≠b:=fun p v hp e=>by have:=hW.cV p v hp;omega
         have hloc:∀i l,V.loc i=some l->V'.loc i=some l:=by
           intro i l hl
           have:i≠g:=fun e=>by rw[e,hgl]at hl;cases hl
           show(if i=g then _ else V.loc i)=some l
           rw[if_neg this];exact hl
         have hself0:V'.loc g=some (.blk b):=by simp[V']
         have hself:aK V' g=some b:=by unfold aK;rw[hself0]
         have hV'I:∀p v,V'.imm p=some v->I p=some v:=by
           intro p v hp;change (if p.block=b then none else I p)=some v at hp;split at hp
           . cases hp
           . exact hp
         have hs:Stp V W V' W' none:=⟨⟨fun p v hp=>by
             show(if p.block=b then none else I p)=some v
             rw[if_neg (hold p v hp)]
             exact j3 p v hp,hloc⟩,cZ j1,fun p v hp=>(j4 p v (hV'I p v hp)).elim .inl (fun h=> .inr (.inl h))⟩
         have hrl:aj V' cs (cur.toList.take cs.length):=by
           have hcl:cs.length<=cur.size:=by rw[hcs,hlen];exact Nat.mul_le_mul_right _ hnc
           refine⟨by simp;omega,fun i x v hx hv=> ?_⟩;have hi:i<cs.length:=(List.getElem?_eq_some_iff.1 hx).1;rw[List.getElem?_take,if_pos hi]at hv
           cases hro with
           |slx _ _=>simp at hi
           | sl f _ _ _ hii hh _=>
             have h3:=(j2 _ _ (hii i hi)).1;rw[Nat.zero_add]at h3
             have h4:cur[i]? =some (f i):=by simpa[World.cell?,hcur] using h3
             rw[Array.getElem?_toList,h4]at hv;cases hv;exact ez (hh i x hx) (hsc x (List.mem_of_getElem? hx)) V'
         have hone:aA cs=true:=(ba cs).2 (fun x hx=>by have:=hsc x hx;cases x<;>first|rfl|cases this)
         have hW':WR P w0 V' ((H++X).set g (.cells cs)) W':=by
           refine hW.fill hdead hs (fun p v hp=>j2 p v (hV'I p v hp)) (fun i hi=> ?_) ⟨b,cur,e',hself,Nat.le_trans hW.size hge,hcur,hrl,hrl.aA hone,fun off=> ?_,fun b' sz' cap' he=>by rw[hself0]at he;cases he⟩ (fun c hc=> ?_)
           . show(if i=g then _ else V.loc i)=none
             rw[if_neg (by omega)];exact hW.fresh i hi
           . show(if b=b then none else _)=none
             rw[if_pos rfl]
           . rw[hself]at hc;simp only[Option.some.injEq]at hc;omega
         show next (a.put o.dst _) W'
         rw[hdst];refine hn V' _ W' (hs.grow hW.size (by simp)) hW' (fun i hi=> ?_) (bJ hF hs.le (.msl hself hnc) _);have hig:i≠g:=hi.resolve_left (by simp);show(if i=g then _ else V.loc i)=_
         rw[if_neg hig]
     . rename_i x ho;split at h
       case isFalse=>cases h
       rename_i hone;cases h;obtain⟨hdead,hgl⟩:=hg (.cells (x.ev fr.tm).flat) rfl;have hglt:g<(H++X).length:=(List.getElem?_eq_some_iff.1 hdead).1;rw[ho]at hop;obtain⟨t,y,hot,hy⟩:=GK hop;have hrf:=(aM hF.tm hy).flat
       have hrun2:(Instr.box t (a.eval y)).run P W= .ok (.pointer (some ⟨W.heap.size,0,none⟩)) (W.alloc (.cells (a.eval y).cells t)):=by
         simp[Instr.box,newVar,newRow]
       have h1:(execOp a.eval o).run P W= .ok (.value (.pointer (some ⟨W.heap.size,0,none⟩))) (W.alloc (.cells (a.eval y).cells t)):=by
         simpa[execOp,hot] using cP hrun2
       have hnd:∀c,o.op≠ .defer c:=by rw[hot];intro c e;cases e
       rw[Oper.semAt_eq _ _ _ hnd,h1,Oper.uponIn_value,hdst];have hs:Stp V W (V.at g (.blk W.heap.size)) (W.alloc (.cells (a.eval y).cells t)) none:=⟨View.se hgl _,World.grownBy_alloc W _ none,fun _ _ hp=> .inl hp⟩
       have hW':WR P w0 (V.at g (.blk W.heap.size)) ((H++X).set g (.cells (x.ev fr.tm).flat)) (W.alloc (.cells (a.eval y).cells t)):=by
         refine hW.fill hdead hs (jP hW _) (fun i hi=> ?_) ⟨W.heap.size,(a.eval y).cells,t,View.iv _ _ _,hW.size,heap_alloc_new W _,hrf.whole.mono hs.le,hrf.whole.aA hone,fun off=> ?_,fun b' sz cap he=> ?_⟩ (fun c hc=> ?_)
         . show(if i=g then _ else V.loc i)=none
           rw[if_neg (by omega)];exact hW.fresh i hi
         . cases hp:(V.at g (.blk W.heap.size)).imm ⟨W.heap.size,off,none⟩with
           |none=>rfl
           |some v=>exact absurd (hW.cV _ _ hp) (Nat.lt_irrefl _)
         . rw[View.b8]at he;cases he
         . rw[View.iv]at hc;cases hc;exact Nat.le_refl _
       refine hn _ _ _ (hs.grow hW.size (by simp)) hW' (fun i hi=> ?_) (bJ hF hs.le (.ptr (View.iv _ _ _)) _);have hig:i≠g:=hi.resolve_left (by simp);show(if i=g then _ else V.loc i)=_
       rw[if_neg hig]
     . unfold apX at h;split at h
       . rename_i ho;exact absurd ho (nf _ _ _ _)
       . rename_i ho;exact absurd ho (ng _ _ _ _ _)
       . cases h
 . rename_i hw;cases h;rw[if_neg hw];exact⟨fun _ _=>trivial,hn V _ W (.refl w0 V) hW (fun _ _=>rfl) (bJ hF (.refl V) (Rep.undef V) _)⟩
theorem MN {cb:CB} (hcb:fD P cb) {ro:Option Nat} {ops:Array Oper} {o:Oper} {ao:ai} {fr:Fr} {Q:Exit->Act->World->Prop} {next:Act->World->Prop} {v:AV} {k:Option av} {g:Nat} {X G:ab}
   (hG:∀id es,G[id]? =some (.map es)->(∃l,V.loc id=some l)->(H++X)[id]? =some (.map es)) (hGt:∀g0 sz3,bM ao fr.tm=some g0->G[g0]? =some (.tok sz3)->(∃l,V.loc g0=some l)->(H++X)[g0]? =some (.tok sz3))
   (hc:dE P ops o=some ao) (hF:FrR V fr a) (hW:WR P w0 V (H++X) W) (h:ap1 cb H G ao fr.tm g=some (v,k)) (hg:∀sz,k=some sz->(H++X)[g]? =some .dead/\V.loc g=none)
   (hn:∀V' a' W',bO w0 V V'->WR P w0 V' (nL (ff (H++X) g k) (bM ao fr.tm)) W'->(∀i,k=none∨i≠g->V'.loc i=V.loc i)->(∀g0,bM ao fr.tm=some g0->∃l,V.loc g0=some l)->FrR V' {fr with tm:=bV fr.tm ao.dst v} a'->next a' W'):
   if Region.wanted o (yielded ops a.tmps)then o.wpIn (Fk ro) 0 P a W next Q else(∀f,o.about P W a.eval=some f->(Fk ro).fn f)/\next (a.put o.dst undef) W:=by
 obtain⟨hop,hdst⟩:=gI hc;by_cases hw:bC fr.tm ao.guard=true
 case neg=>
   have hk:bM ao fr.tm=none:=by unfold bM;rw[if_neg hw]
   rw[fH hF.tm hc,hdst];unfold ap1 at h;rw[if_neg hw]at h;cases h;rw[if_neg hw];exact⟨fun _ _=>trivial,hn V _ W (.refl w0 V) (by rw[hk];exact hW) (fun _ _=>rfl) (fun g0 e=>by rw[hk]at e;cases e) (bJ hF (.refl V) (Rep.undef V) _)⟩
 by_cases hf:∃p q x y,ao.op= .og p q x y
 . obtain⟨p,q,x,y,hf⟩:=hf
   have hk:bM ao fr.tm=none:=by unfold bM;rw[if_pos hw,hf]
   have hnd:=cr hop (by intro x' xs hx;rw[hx]at hf;cases hf);rw[fH hF.tm hc,hdst,if_pos hw];refine⟨fun _ _=>trivial, ?_⟩;unfold ap1 at h;rw[if_pos hw,hf]at h;have hv0:aT (.og p q x y) fr.tm H=none:=rfl;rw[hv0]at h;have h:kR p q (x.ev fr.tm) (y.ev fr.tm) g=some (v,k):=h;rw[hf]at hop
   have hkk:k=some (.tok p):=by
     unfold kR at h
     (repeat' split at h)<;>first|(cases h;done)|(cases h;rfl)
   obtain⟨hd,hl⟩:=hg _ hkk;obtain⟨V',W',u,h1,h2,h3,h4,h5⟩:=HQ hW hF.tm hop h hd hl;rw[Oper.semAt_eq _ _ _ hnd,h1,Oper.uponIn_value,hdst];exact hn V' _ W' h3 (by rw[hk];exact h4) (fun i hi=>h5 i (hi.resolve_left (by rw[hkk];simp))) (fun g0 e=>by rw[hk]at e;cases e) (bJ hF h3.le h2 _)
 by_cases hgx:∃p q zs x y,ao.op= .iA p q zs x y
 . obtain⟨p,q,zs,x,y,hgx⟩:=hgx;have hnd:=cr hop (by intro x' xs hx;rw[hx]at hgx;cases hgx);rw[fH hF.tm hc,hdst,if_pos hw];refine⟨fun _ _=>trivial, ?_⟩;unfold ap1 at h;rw[if_pos hw,hgx]at h;have hv0:aT (.iA p q zs x y) fr.tm H=none:=rfl;rw[hv0]at h;have h:ry H.length p q zs (x.ev fr.tm) (y.ev fr.tm) G g=some (v,k):=h;rw[hgx]at hop
   have hkk:k=some (.tok p):=by
     unfold ry nC kR at h
     (repeat' split at h)<;>first|(cases h;done)|(cases h;rfl)
   obtain⟨hd,hl⟩:=hg _ hkk
   rcases yH h with⟨_,_,_,_,_,h⟩|⟨hno,hze,h⟩
   case inr=>
     have hk:bM ao fr.tm=none:=by
       unfold bM;rw[if_pos hw,hgx];simp only
       first
         |done
         | (split
            . rename_i e;exact absurd e (hno _ _ _ _)
            . rfl)
     obtain⟨V',W',u,h1,h2,h3,h4,h5⟩:=Dw hW hF.tm hop hze h hd hl;rw[Oper.semAt_eq _ _ _ hnd,h1,Oper.uponIn_value,hdst];exact hn V' _ W' h3 (by rw[hk];exact h4) (fun i hi=>h5 i (hi.resolve_left (by rw[hkk];simp))) (fun g0 e=>by rw[hk]at e;cases e) (bJ hF h3.le h2 _)
   have hkill:∀sz' n cs g0,x.ev fr.tm= .sl sz' n cs (.own g0)->bM ao fr.tm=some g0:=fun sz' n cs g0 e=>by
     unfold bM;rw[if_pos hw,hgx];simp only[e]
   obtain⟨V',W',u,g0,⟨sz',n,cs,e0⟩,h1,h2,h3,h4,h5⟩:=FP hW hF.tm hop h hd hl (fun g0 sz3 sz' n cs e1 e2 e3=>hGt g0 sz3 (hkill _ _ _ _ e1) e2 e3);have hk:=hkill _ _ _ _ e0
   have hlk:∃l,V.loc g0=some l:=by
     obtain⟨s0,_,_,_,_,_,_,_,_,_,_,hs0,_⟩:=py hop;have hr:=aM hF.tm hs0;generalize a.eval s0=q0 at hr;rw[e0]at hr
     cases hr with
     |sl f hn hc hnc hii hh ht=>rcases ht with ht|⟨ht,_⟩<;>cases ht
     |slo f hn hnc hl hii hh=>exact⟨_,hl⟩
   rw[Oper.semAt_eq _ _ _ hnd,h1,Oper.uponIn_value,hdst];exact hn V' _ W' h3 (by rw[hk];exact h4) (fun i hi=>h5 i (hi.resolve_left (by rw[hkk];simp))) (fun g1 e=>by rw[hk]at e;cases e;exact hlk) (bJ hF h3.le h2 _)
 have hk:bM ao fr.tm=none:=by
   unfold bM;rw[if_pos hw];revert hgx
   cases ao.op<;>intro hgx<;>first|rfl|exact absurd ⟨_,_,_,_,_,rfl⟩ hgx
 exact J6 hcb hG hc hF hW h (fun p q x y e=>hf ⟨p,q,x,y,e⟩) (fun p q zs x y e=>hgx ⟨p,q,zs,x,y,e⟩) hg (fun V' a' W' g1 g2 g3 g4=>hn V' a' W' g1 (by rw[hk];exact g2) g3 (fun g0 e=>by rw[hk]at e;cases e) g4)
end Go.Am
