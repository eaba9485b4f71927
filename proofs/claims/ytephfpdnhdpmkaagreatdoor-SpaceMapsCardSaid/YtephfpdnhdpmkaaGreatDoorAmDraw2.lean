/- REGIONS THAT DRAW THEIR ORDER, the walk over all orders. No condition. -/
import Derived.Test.YtephfpdnhdpmkaaGreatDoorAmDraw
open Int (reduceEq)
open Nat (reduceEqDiff reduceAdd reduceMul reduceLT reduceLeDiff)
set_option linter.all false
namespace Go.Am
open Go Go.RowKit
set_option linter.unusedSectionVars false
variable [dy]
variable {P:Program} {w0:World} {V:View} {H:ab} {W:World} {tm:List AV} {a:Act}
theorem sk {listed:Array Bool} {i:Nat} (h:i<listed.size):listed.getD i true=listed.getD i false:=by simp[h]
theorem dx {ops:Array Oper} {listed:Array Bool} (hs:listed.size=ops.size) {i:Nat}:
   i∈Region.ready .any ops listed↔∃o,ops[i]? =some o/\listed.getD i false=false/\∀e∈o.after,Region.binds .any e=true->listed.getD e.on false=true:=by
 rw[mem_ready];constructor
 . rintro ⟨h1,o,h2,h3⟩
   have:i<listed.size:=by rw[hs];exact(Array.getElem?_eq_some_iff.1 h2).1
   exact⟨o,h2,by rw[<-sk this];exact h1,h3⟩
 . rintro ⟨o,h2,h1,h3⟩
   have:i<listed.size:=by rw[hs];exact(Array.getElem?_eq_some_iff.1 h2).1
   exact⟨by rw[sk this];exact h1,o,h2,h3⟩
theorem bS {listed:Array Bool} {i:Nat} (hi:i<listed.size) (j:Nat):(listed.setIfInBounds i true).getD j false=(decide (i=j)||listed.getD j false):=by
 by_cases h:i=j
 . subst h;simp[hi]
 . simp[h,Array.getElem?_setIfInBounds_ne h]
theorem kU {ops:Array Oper} {listed:Array Bool} (hs:listed.size=ops.size) (hD:∀(j:Nat) (o:Oper) (e:Edge),ops[j]? =some o->e∈o.after->Region.binds .any e=true->e.on<j)
   (h:Region.ready .any ops listed=[]):∀i,i<ops.size->listed.getD i false=true:=by
 intro i
 induction i using Nat.strongRecOn with
 | _ i ih=>
   intro hi
   cases hb:listed.getD i false with
   |true=>rfl
   | false=>
     have:i∈Region.ready .any ops listed:=(dx hs).2 ⟨ops[i],by simp[hi],hb,fun e he hbd=>by
       have:=hD i _ e (by simp[hi]) he hbd
       exact ih e.on this (by omega)⟩
     rw[h]at this;cases this
def cnt:List Bool->Nat
 |[]=>0
 |b::r=>(if b then 0 else 1)+cnt r
theorem Fu:∀l,cnt l<=l.length
 |[]=>Nat.le_refl _
 |b::r=>by rw[cnt,List.length_cons];have:=Fu r;split<;>omega
theorem uG:∀(l:List Bool) (i:Nat),l[i]? =some false->cnt (l.set i true)+1=cnt l
 |[],_,h=>by simp at h
 |b::r,0,h=>by simp at h;subst h;simp[cnt];omega
 | b::r,i+1,h=>by
   have:=uG r i (by simpa using h);simp only[List.set_cons_succ,cnt];omega
theorem oX:∀(l:List Bool),cnt l=0->∀(i:Nat) (b:Bool),l[i]? =some b->b=true
 |[],_,_,_,h=>by simp at h
 | c::r,hc,0,b,h=>by
   simp at h;subst h;rw[cnt]at hc
   cases c with
   |true=>rfl
   |false=>simp at hc
 |c::r,hc,i+1,b,h=>by rw[cnt]at hc;exact oX r (by omega) i b (by simpa using h)
theorem zl {o:AOp} (h:o.still=true) (tm:List AV) (H H':ab):aT o tm H=aT o tm H':=by
 cases o<;>first|rfl|cases h|skip
 rename_i k x;simp only[aT]
 match k,h with
 |0,_=>cases x.ev tm<;>rfl
 |1,_=>cases x.ev tm<;>rfl
 |n+3,_=>cases x.ev tm<;>rfl
theorem rO {o:AOp} {sz:Nat} {ag:Bool} {x:X} (h:o= .load sz ag x) (tm:List AV) (H:ab):bI o tm H=none:=by subst h;rfl
theorem zj {o:AOp} (h:o.quiet=true) {tm tm':List AV} (hx:∀x∈o.xs,x.ev tm=x.ev tm') (H:ab):bI o tm H=bI o tm' H:=by
 cases o<;>first|rfl|(cases h;done)|(simp[AOp.xs]at hx;simp only[bI,hx])
theorem kb {tm tm':List AV} {o:ai} (h:∀t∈o.reads,tm[t]? =tm'[t]?):bC tm o.guard=bC tm' o.guard:=by
 unfold bC;split
 . rfl
 . rename_i g t b hg;rw[h t (by simp[ai.reads,hg])]
theorem mJ {tm tm':List AV} {o:ai} (h:∀t∈o.reads,tm[t]? =tm'[t]?):∀x∈o.op.xs,x.ev tm=x.ev tm':=lA (fun t ht=>h t (by
   unfold ai.reads;split
   . exact ht
   . exact List.mem_cons_of_mem _ ht))
theorem GJ {o:AOp} (hq:o.quiet=true) {tm:List AV} {H:ab} {nx:Nx} {H':ab} (h:bI o tm H=some (nx,H')):(∃v,nx= .val v)∨nx= .skip:=by
 cases o<;>first|(cases hq;done)|(cases h;done)|skip
 . simp only[bI]at h
   (repeat' split at h)<;>first|(cases h;done)|(cases h;exact .inr rfl)
 . simp only[bI,eW]at h
   (repeat' split at h)<;>first|(cases h;done)|(cases h;exact .inl ⟨_,rfl⟩)
def cE (cb:CB) (o:ai) (tm:List AV) (H:ab):Option (AV×ab):=
 if bC tm o.guard then
   match aT o.op tm H with
   |some v=>some (v,H)
   | none=>match bI o.op tm H with
     |some (.val v,H')=>some (v,H')
     |some (.skip,H')=>some (.tup [],H')
     |_=>none
 else some (.tup [],H)
theorem uI {cb:CB} {rd:Option Nat} {o:ai} (hq:o.op.quiet=true) {rest:List ai} {fr:Fr} {H:ab} {r:Ex×Fr×ab} (h:aU cb rd (o::rest) fr H=some r):
   ∃v H1,cE cb o fr.tm H=some (v,H1)/\aU cb rd rest {fr with tm:=bV fr.tm o.dst v} H1=some r:=by
 rw[aU]at h;unfold cE;split at h
 . rename_i hw;rw[if_pos hw];split at h
   . rename_i v hv;exact⟨v,H,by rw[hv],h⟩
   . rename_i hv;split at h
     . rename_i v H' ha;exact⟨v,H',by rw[hv,ha],h⟩
     . rename_i H' ha;exact⟨.tup [],H',by rw[hv,ha],h⟩
     all_goals first
       |(cases h;done)
       |(rename_i ha;rcases GJ hq ha with⟨_,e⟩|e<;>cases e)
 . rename_i hw;rw[if_neg hw];exact⟨.tup [],H,rfl,h⟩
theorem lE {cb:CB} {o:ai} (hq:o.op.quiet=true) {tm tm':List AV} (h:∀t∈o.reads,tm[t]? =tm'[t]?) (H:ab):cE cb o tm H=cE cb o tm' H:=by
 unfold cE;rw[kb h,iF (mJ h),zj hq (mJ h)]
theorem uN:∀(ws:List (Option Nat×AV)) (L L':Nat->Bool) (k:Nat) (tm:List AV),(∀j,j<ws.length->L (k+j)=L' (k+j))->bt ws L k tm=bt ws L' k tm
 |[],_,_,_,_,_=>rfl
 | (d,v)::r,L,L',k,tm,h=>by
   rw[bt,bt];have:=h 0 (by simp);simp only[Nat.add_zero]at this;rw[this];exact uN r L L' (k+1) _ (fun j hj=>by have:=h (j+1) (by simp;omega);simpa[Nat.add_assoc,Nat.add_comm 1 j] using this)
theorem jC (d:Option Nat) (v:AV):∀(ws:List (Option Nat×AV)) (L:Nat->Bool) (k:Nat) (tm:List AV),bt (ws++[(d,v)]) L k tm=if L (k+ws.length)then bV (bt ws L k tm) d v else bt ws L k tm
 |[],L,k,tm=>by simp[bt]
 | (e,u)::r,L,k,tm=>by
   rw[List.cons_append,bt,bt,jC d v r L (k+1) _,List.length_cons]
   have:k+1+r.length=k+(r.length+1):=by omega
   rw[this]
def st1 (o:ai) (tm:List AV):Option AV:=if bC tm o.guard then aT o.op tm [] else some (.tup [])
structure uK (ops:Array Oper) (os:List ai) (s:Nat) (fs:List Nat):Prop where
 back:∀(j:Nat) (o:Oper) (e:Edge),ops[j]? =some o->e∈o.after->Region.binds .any e=true->e.on<j
 pair:∀i j,i<j->j<ops.size->Ord ops i j∨∃x y,os[i]? =some x/\os[j]? =some y/\oM x y=true/\(j<s∨(i<s/\(x.op.still=true∨i∈fs)/\y.op.quiet=true))
theorem uS {ops:Array Oper} {os:List ai} {s:Nat} {fs:List Nat} (h:k7 ops os (kX ops.toList []) s fs=true):uK ops os s fs:=by
 have hb:∀k i,((kX ops.toList []).getD k 0).testBit i=true->Ord ops i k:=qC ops.toList [] (fun k=>by simp) (fun k i h=>by simp at h);unfold k7 at h;rw[List.all_eq_true]at h;constructor
 . intro j o e ho he hbd;have hj:j<ops.size:=(Array.getElem?_eq_some_iff.1 ho).1;have h1:=h j (by simpa using hj);rw[Bool.and_eq_true,ho]at h1;have h2:=h1.1;simp only[Option.map_some,Option.getD_some,List.all_eq_true]at h2;have h3:=h2 e (by simpa using he);simpa[hbd] using h3
 . intro i j hij hj;have h1:=h j (by simpa using hj);rw[Bool.and_eq_true]at h1;have h2:=h1.2;rw[List.all_eq_true]at h2;have h3:=h2 i (by simpa using hij);rw[Bool.or_eq_true]at h3
   rcases h3 with h3|h3
   . exact .inl (hb _ _ h3)
   . right;unfold D9 at h3;split at h3
     . rename_i x y hx hy;simp only[Bool.and_eq_true,Bool.or_eq_true,decide_eq_true_eq,List.contains_iff_mem]at h3;exact⟨x,y,hx,hy,h3.1,h3.2.imp id (fun h=>⟨h.1.1,h.1.2,h.2⟩)⟩
     . cases h3
theorem nO:∀l:List ai,jo l<=l.length
 |[]=>Nat.le_refl _
 | o::r=>by
   rw[jo];have:=nO r;split
   . rw[List.length_cons];omega
   . exact Nat.zero_le _
theorem lB (b:List Nat):∀n,jJ b n<=n
 |0=>Nat.le_refl _
 | n+1=>by
   rw[jJ];split
   . exact Nat.le_succ_of_le (lB b n)
   . exact Nat.le_refl _
theorem dR {x y:ai} (h:oM x y=true):(∀t,x.dst=some t->t∉y.reads)/\(∀t,x.dst=some t->y.dst≠some t)/\(∀t,y.dst=some t->t∉x.reads):=by
 refine⟨fun t ht=> ?_,fun t ht=> ?_,fun t ht=> ?_⟩<;>simp[oM,ht]at h
 . exact h.1.1
 . exact h.1.2
 . exact h.2
structure vR (ops:Array Oper) (os:List ai) (s:Nat) (fs:List Nat) (lx sx:List X):Prop where
 ld:∀i,i∈fs->∃y sz ag k,os[i]? =some y/\y.op= .load sz ag (.t k)/\X.t k∈lx/\∀j z,i<=j->os[j]? =some z->z.dst≠some k
 st:∀i,i∈fs->∀(j:Nat) (y:ai) (sz:Nat) (a x:X),s<=j->¬Ord ops i j->os[j]? =some y->y.op= .store sz a x->X.c .cL∈sx∨a∈sx
 dst:∀i,i∈fs->∀(j:Nat) (y:ai) (d:Nat),s<=j->os[j]? =some y->y.dst=some d->d∉gZ (lx++sx)
theorem nN {ops:Array Oper} {os:List ai} {s:Nat} {fs:List Nat} {sx:List X} (hsx:sx=Fa os (kX ops.toList []) s fs∨sx=[.c .cL]) (h:zL os s fs (zn os fs) sx=true):vR ops os s fs (zn os fs) sx:=by
 have hb:∀k i,((kX ops.toList []).getD k 0).testBit i=true->Ord ops i k:=qC ops.toList [] (fun k=>by simp) (fun k i h=>by simp at h);unfold zL at h;rw[Bool.and_eq_true,List.all_eq_true,List.all_eq_true]at h
 have dr:∀(n j:Nat) (z:ai),n<=j->os[j]? =some z->z∈os.drop n:=by
   intro n j z hn hz;refine List.mem_iff_getElem?.2 ⟨j-n, ?_⟩;rw[List.getElem?_drop,show n+(j-n)=j by omega];exact hz
 refine⟨fun i hi=> ?_,fun i hi j y sz a x hj hno hy ho=> ?_,fun i _ j y d hj hy hd=> ?_⟩
 . have h1:=h.1 i hi;split at h1
   . rename_i o ho;split at h1
     . rename_i sz ag k hop;rw[List.all_eq_true]at h1;refine⟨o,sz,ag,k,ho,hop, ?_,fun j z hj hz=> ?_⟩
       . refine List.mem_flatMap.2 ⟨i,hi, ?_⟩;simp[ho,hop,AOp.ldX]
       . have:=h1 z (dr i j z hj hz);simpa using this
     . cases h1
   . cases h1
 . rcases hsx with rfl|rfl
   case inr=>exact .inl (by simp)
   right;have hjl:j<os.length:=(List.getElem?_eq_some_iff.1 hy).1;refine List.mem_flatMap.2 ⟨j,List.mem_range.2 hjl, ?_⟩
   have h1:((kX ops.toList []).getD j 0).testBit i=false:=by
     cases hb1:((kX ops.toList []).getD j 0).testBit i with
     |false=>rfl
     |true=>exact absurd (hb j i hb1) hno
   have h2:(decide (s<=j)&&fs.any (fun i=> !((kX ops.toList []).getD j 0).testBit i))=true:=by
     rw[Bool.and_eq_true];exact⟨by simpa using hj,List.any_eq_true.2 ⟨i,hi,by rw[h1];rfl⟩⟩
   rw[if_pos h2,hy];simp[ho,AOp.stX]
 . have:=h.2 y (dr s j y hj hy);rw[hd]at this;simpa using this
theorem z8 {id id' o:Nat}:∀{l:List AV},jR id l=true->AV.ptr id' o∈l->id'≠id
 |[],_,h=>by simp at h
 | v::l,h,hm=>by
   have re:jR id l=true->AV.ptr id' o∈l->id'≠id:=z8
   cases v with
   | ptr i p=>
     rw[jR]at h;split at h
     . cases h
     . rename_i hne
       rcases List.mem_cons.1 hm with e|e
       . cases e;exact hne
       . exact re h e
   |cL=>rw[jR]at h;cases h
   |_=>exact re h ((List.mem_cons.1 hm).resolve_left (by intro e;cases e))
theorem sW {id id' o o':Nat} {ss:List AV}:∀{l:List AV},ck l ss=true->AV.ptr id o∈l->AV.ptr id' o'∈ss->id'≠id
 |[],_,h,_=>by simp at h
 | v::l,h,hm,hs=>by
   have re:ck l ss=true->AV.ptr id o∈l->AV.ptr id' o'∈ss->id'≠id:=sW
   cases v with
   | ptr i p=>
     rw[ck]at h;split at h
     . rename_i ho
       rcases List.mem_cons.1 hm with e|e
       . cases e;exact z8 ho hs
       . exact re h e hs
     . cases h
   | bU cs=>
     rw[ck]at h;exact re h ((List.mem_cons.1 hm).resolve_left (by intro e;cases e)) hs
   |_=>simp[ck]at h
theorem rE {id:Nat}:∀{l:List AV},jR id l=true->AV.cL∉l
 |[],_=>by simp
 | v::l,h=>by
   have re:jR id l=true->AV.cL∉l:=rE
   cases v with
   | ptr i p=>
     rw[jR]at h;split at h
     . cases h
     . intro hm
       rcases List.mem_cons.1 hm with e|e
       . cases e
       . exact re h e
   |cL=>rw[jR]at h;cases h
   | _=>
     intro hm
     rcases List.mem_cons.1 hm with e|e
     . cases e
     . exact re h e
theorem n9 {id o:Nat} {ss:List AV}:∀{l:List AV},ck l ss=true->AV.ptr id o∈l->AV.cL∉ss
 |[],_,h=>by simp at h
 | v::l,h,hm=>by
   have re:ck l ss=true->AV.ptr id o∈l->AV.cL∉ss:=n9
   cases v with
   | ptr i p=>
     rw[ck]at h;split at h
     . rename_i ho;exact rE ho
     . cases h
   | bU cs=>
     rw[ck]at h;exact re h ((List.mem_cons.1 hm).resolve_left (by intro e;cases e))
   |_=>simp[ck]at h
theorem vo {cb:CB} {o:ai} (hq:o.op.quiet=true) {tm:List AV} {H H1:ab} {v:AV} (h:cE cb o tm H=some (v,H1)) {id:Nat} {cs:List AV}
   (hs:∀sz a x,o.op= .store sz a x->∀id' p,a.ev tm= .ptr id' p->id'≠id) (hg:H[id]? =some (.cells cs)):H1[id]? =some (.cells cs):=by
 unfold cE at h;split at h
 . split at h
   . cases h;exact hg
   . have key:∀nx,bI o.op tm H=some (nx,H1)->H1[id]? =some (.cells cs):=by
       intro nx ha;have hlt:id<H.length:=(List.getElem?_eq_some_iff.1 hg).1
       cases ho:o.op<;>rw[ho]at ha hq<;>first|(cases hq;done)|(cases ha;done)|skip
       . rename_i sz a x;simp only[bI]at ha;split at ha
         . rename_i id' p ha';have hne:=hs sz a x ho id' p ha'
           (repeat' split at ha)<;>first|(cases ha;done)|skip
           cases ha;rw[List.getElem?_set];rw[if_neg hne];exact hg
         . cases ha
       . simp only[bI,eW]at ha
         (repeat' split at ha)<;>first|(cases ha;done)|skip
         all_goals first
           |(cases ha;exact hg)
           |(cases ha;rw[List.getElem?_append_left hlt];exact hg)
           |skip
         all_goals
           cases ha;rename_i g _ _ hgt _;rw[List.getElem?_append_left (by rw[List.length_set];exact hlt),List.getElem?_set];rw[if_neg (fun e=>by subst e;rw[hg]at hgt;cases hgt)];exact hg
     split at h
     . rename_i ha;cases h;exact key _ ha
     . rename_i ha;cases h;exact key _ ha
     . cases h
 . cases h;exact hg
theorem wj {cb:CB} {y:ai} {sz:Nat} {ag:Bool} {x:X} (ho:y.op= .load sz ag x) {tm:List AV} {H H1:ab} {v:AV} (h:cE cb y tm H=some (v,H))
   (hk:∀id p cs,x.ev tm= .ptr id p->H[id]? =some (.cells cs)->H1[id]? =some (.cells cs)):cE cb y tm H1=some (v,H1):=by
 unfold cE at h ⊢;split at h
 . rename_i hw;rw[if_pos hw];rw[ho]at h ⊢;split at h
   . rename_i u hv;cases h
     have:aT (.load sz ag x) tm H1=some v:=by
       simp only[aT]at hv ⊢;split at hv
       . rename_i id p he;split at hv
         . rename_i cs hg;rw[hk id p cs he hg];exact hv
         . cases hv
       . exact hv
       . cases hv
     rw[this]
   . rename_i hv;simp[bI]at h
 . rename_i hw;rw[if_neg hw];cases h;rfl
theorem uq {cb:CB} {y:ai} (hs:y.op.still=true) {tm:List AV} {H H1:ab} {v:AV} (h:cE cb y tm H=some (v,H)):cE cb y tm H1=some (v,H1):=by
 have hn:∀H',bI y.op tm H'=none:=by
   intro H';revert hs
   cases y.op<;>intro hs<;>first|rfl|cases hs
 unfold cE at h ⊢;split at h
 . rename_i hw;rw[if_pos hw];rw[zl hs tm H1 H];split at h
   . rename_i u hv;cases h;rfl
   . rw[hn]at h;cases h
 . rename_i hw;rw[if_neg hw];cases h;rfl
theorem rq {cb:CB} {o:ai} (hq:o.op.quiet=true∨∃sz ag x,o.op= .load sz ag x) {tm tm':List AV} (h:∀t∈o.reads,tm[t]? =tm'[t]?) (H:ab):cE cb o tm H=cE cb o tm' H:=by
 rcases hq with hq|⟨sz,ag,x,ho⟩
 . exact lE hq h H
 . unfold cE;rw[kb h,iF (mJ h),rO ho,rO ho]
theorem nK {o:ai} {tm:List AV} {g0:Nat} (h:bM o tm=some g0):bC tm o.guard=true/\∃sz bytes zs x n sz' m cs,o.op= .iA sz bytes zs x n/\x.ev tm= .sl sz' m cs (.own g0):=by
 unfold bM at h;split at h
 . rename_i hw;refine⟨hw, ?_⟩;split at h
   . rename_i sz bytes zs x n ho;split at h
     . rename_i sz' m cs g e;cases h;exact⟨sz,bytes,zs,x,n,sz',m,cs,ho,e⟩
     . cases h
   . cases h
 . cases h
structure Can (cb:CB) (H:ab) (pre:List ai) (tm:List AV) (ws:List (Option Nat×AV)) (ks:List (Option av)) (kl:List (Option Nat)) (Es:Nat->List av):Prop where
 wl:ws.length=pre.length
 l1:ks.length=pre.length
 l2:kl.length=pre.length
 e0:Es 0=[]
 st:∀(i:Nat) (o:ai),pre[i]? =some o->∃v k,ws[i]? =some (o.dst,v)/\ks[i]? =some k/\kl[i]? =some (bM o (bt ws (fun j=>decide (j<i)) 0 tm))∧
   Es (i+1)=kx H.length (bM o (bt ws (fun j=>decide (j<i)) 0 tm)) (Es i++k.toList)/\ap1 cb H (H++Es i) o (bt ws (fun j=>decide (j<i)) 0 tm) (H.length+(Es i).length)=some (v,k)
theorem BU (h:Nat) (k:Option Nat) (e:List av):(kx h k e).length=e.length:=by cases k<;>simp[kx]
section
variable {cb:CB} {pre:List ai} {ws:List (Option Nat×AV)} {ks:List (Option av)} {kl:List (Option Nat)} {Es:Nat->List av}
theorem Can.len (hC:Can cb H pre tm ws ks kl Es):∀i,i<=pre.length->(Es i).length=bG ks i
 |0,_=>by rw[hC.e0];simp[bG,gn]
 | i+1,hi=>by
   obtain⟨v,k,_,k2,_,k4,_⟩:=hC.st i pre[i] (List.getElem?_eq_getElem _);rw[k4,BU,List.length_append,hC.len i (by omega),BF k2]
theorem Can.kill (hC:Can cb H pre tm ws ks kl Es) {i g0:Nat} (h:kl[i]? =some (some g0)):i<pre.length/\H.length<=g0/\∃sz,(H++Es i)[g0]? =some (.tok sz):=by
 have hi:i<pre.length:=by have:=(List.getElem?_eq_some_iff.1 h).1;rw[hC.l2]at this;exact this
 obtain⟨v,k,_,_,k3,_,k5⟩:=hC.st i pre[i] (List.getElem?_eq_getElem _);rw[h]at k3;obtain⟨hw,sz,bytes,zs,x,n,sz',m,cs,ho,e⟩:=nK (Option.some.inj k3).symm;refine⟨hi, ?_⟩;unfold ap1 at k5;rw[if_pos hw,ho]at k5;have k5:ry H.length sz bytes zs (x.ev _) (n.ev _) (H++Es i) _=some (v,k):=k5;rw[e]at k5;have k5:nC H.length sz bytes zs (.sl sz' m cs (.own g0)) (n.ev _) (H++Es i) _=some (v,k):=k5;unfold nC at k5;split at k5
 . rename_i e1 hm;cases e1;split at k5
   . rename_i sz3 hg;split at k5
     . rename_i hcnd;exact⟨hcnd.1,sz3,hg⟩
     . cases k5
   . cases k5
 . cases k5
theorem Can.lj (hC:Can cb H pre tm ws ks kl Es) {i p:Nat} (h:kl[i]? =some (some (H.length+p))):p<bG ks i/\∃sz,(Es i)[p]? =some (.tok sz):=by
 obtain⟨hi,_,sz,hg⟩:=hC.kill h;rw[List.getElem?_append_right (by omega),Nat.add_sub_cancel_left]at hg;refine⟨?_,sz,hg⟩;rw[<-hC.len i (by omega)];exact(List.getElem?_eq_some_iff.1 hg).1
theorem Can.get (hC:Can cb H pre tm ws ks kl Es):∀(i:Nat),i<=pre.length->∀(c:Nat) (o:av),ks[c]? =some (some o)->c<i->(Es i)[bG ks c]? =some (if fe kl H.length (fun j=>decide (j<i)) (bG ks c)then .dead else o)
 |0,_,c,o,_,hc=>by omega
 | i+1,hi,c,o,hko,hc=>by
   obtain⟨v,k,_,k2,k3,k4,_⟩:=hC.st i pre[i] (List.getElem?_eq_getElem _);have hl:=hC.len i (by omega)
   have sp:fe kl H.length (fun j=>decide (j<i+1)) (bG ks c)=(fe kl H.length (fun j=>decide (j<i)) (bG ks c)||decide (kl[i]? =some (some (H.length+bG ks c)))):=by
     rw[Bool.eq_iff_iff,Bool.or_eq_true,cC,cC,decide_eq_true_eq];constructor
     . rintro ⟨j,hj,hk⟩
       simp only[decide_eq_true_eq]at hj;by_cases hji:j=i
       . subst hji;exact .inr hk
       . exact .inl ⟨j,by simp;omega,hk⟩
     . rintro (⟨j,hj,hk⟩|hk)
       . simp only[decide_eq_true_eq]at hj;exact⟨j,by simp;omega,hk⟩
       . exact⟨i,by simp,hk⟩
   have base:(Es i++k.toList)[bG ks c]? =some (if fe kl H.length (fun j=>decide (j<i)) (bG ks c)then .dead else o):=by
     by_cases hci:c=i
     . subst hci;rw[k2]at hko;cases hko;rw[List.getElem?_append_right (by omega),hl,Nat.sub_self];rw[if_neg]
       . rfl
       . intro h;obtain⟨j,hj,hk⟩:=cC.1 h;simp only[decide_eq_true_eq]at hj;obtain⟨h1,_⟩:=hC.lj hk
         have:bG ks j<=bG ks c:=by
           unfold bG
           have:(gn (ks.take j)).length<=(gn (ks.take c)).length:=by
             have e:ks.take c=ks.take j++(ks.drop j).take (c-j):=by
               rw[<-List.take_add];congr 1;omega
             rw[e];simp[gn]
           exact this
         omega
     . have hlt:=lz ks c i hko (by omega);rw[List.getElem?_append_left (by omega)];exact hC.get i (by omega) c o hko (by omega)
   rw[k4];generalize bM pre[i] (bt ws (fun j=>decide (j<i)) 0 tm)=q at k3 ⊢
   cases q with
   | none=>
     rw[sp,k3];simp only[kx,Option.some.injEq,reduceCtorEq,decide_false,Bool.or_false];exact base
   | some g0=>
     obtain⟨_,hge,_⟩:=hC.kill k3;rw[sp,k3];simp only[kx];rw[List.getElem?_set];by_cases hp:g0-H.length=bG ks c
     . rw[if_pos hp,if_pos (by rw[hp];exact(List.getElem?_eq_some_iff.1 base).1)]
       have:g0=H.length+bG ks c:=by omega
       rw[this];simp
     . rw[if_neg hp,base]
       have:¬g0=H.length+bG ks c:=by omega
       simp[this]
theorem kI {ks:List (Option av)} {i p:Nat} (h:p<bG ks i):∃c o,c<i/\ks[c]? =some (some o)/\bG ks c=p:=by
 obtain⟨c,o,h1,h2⟩:=hU (ks.take i) p h
 have hc:c<i:=by
   have:=(List.getElem?_eq_some_iff.1 h1).1;rw[List.length_take]at this;omega
 rw[List.getElem?_take,if_pos hc]at h1;refine⟨c,o,hc,h1, ?_⟩;rw[<-h2];unfold bG;rw[List.take_take,Nat.min_eq_left (by omega)]
theorem Can.one (hC:Can cb H pre tm ws ks kl Es) {i j p:Nat} (h1:kl[i]? =some (some (H.length+p))) (h2:kl[j]? =some (some (H.length+p))):i=j:=by
 have main:∀{i j:Nat},i<j->kl[i]? =some (some (H.length+p))->kl[j]? =some (some (H.length+p))->False:=by
   intro i j hij h1 h2;obtain⟨hj,_⟩:=hC.kill h2;obtain⟨p1,_⟩:=hC.lj h1;obtain⟨_,sz,p2⟩:=hC.lj h2;obtain⟨c,o,hc,hk,rfl⟩:=kI p1;rw[hC.get j (by omega) c o hk (by omega),if_pos (cC.2 ⟨i,by simpa using hij,h1⟩)]at p2;cases p2
 rcases Nat.lt_trichotomy i j with h|h|h
 . exact(main h h1 h2).elim
 . exact h
 . exact(main h h2 h1).elim
theorem Can.end (hC:Can cb H pre tm ws ks kl Es):Es pre.length=eR ks (dU ks kl H.length fun _=>true) 0:=by
 have hl:=hC.len pre.length (Nat.le_refl _)
 have hp:bG ks pre.length=(gn ks).length:=by unfold bG;rw[<-hC.l1,List.take_length]
 apply List.ext_getElem?;intro p;by_cases hlt:p<(gn ks).length
 . obtain⟨c,o,hk,rfl⟩:=hU ks p hlt
   have hc:c<pre.length:=by have:=(List.getElem?_eq_some_iff.1 hk).1;rw[hC.l1]at this;exact this
   rw[hC.get _ (Nat.le_refl _) c o hk hc,lX ks _ 0 c hk]
   have sp:fe kl H.length (fun j=>decide (j<pre.length)) (bG ks c)=fe kl H.length (fun _=>true) (bG ks c):=by
     rw[Bool.eq_iff_iff,cC,cC];constructor
     . rintro ⟨j,_,hk⟩;exact⟨j,rfl,hk⟩
     . rintro ⟨j,_,hk⟩;exact⟨j,by simpa using(hC.kill hk).1,hk⟩
   simp only[dU,Nat.zero_add,Bool.true_and,sp]
   cases fe kl H.length (fun _=>true) (bG ks c)<;>rfl
 . rw[List.getElem?_eq_none (by omega),List.getElem?_eq_none (by rw[fZ];omega)]
end
section
variable {cb:CB} {rd ro:Option Nat} {ops:Array Oper} {os:List ai} {s:Nat} {fs:List Nat} {lx sx:List X} {Q:Exit->Act->World->Prop} {r:Ex×Fr×ab}
theorem nh (hcb:fD P cb) (hos:cK (dE P ops) ops.toList=some os) (hD:uK ops os s fs):∀(fuel k:Nat) (listed:Array Bool) (V:View) (W:World) (a:Act) (fr:Fr) (H:ab),
   listed.size=ops.size->(∀i,i<ops.size->listed.getD i false=decide (i<k))->s<=k->k<=ops.size->ops.size-k<=fuel->RdR V rd ro->FrR V fr a->WR P w0 V H W→
   aU cb rd (os.drop k) fr H=some r->(∀V' a' W' ex,bO w0 V V'->WR P w0 V' r.2.2 W'->FrR V' r.2.1 a'->ExR V' r.1 ex->Q ex a' W')→
   wpAnyIn (Fk ro) 0 P .any ops Q fuel listed a W:=by
 obtain⟨hlen,hmap⟩:=dY hos;simp only[Array.length_toList]at hlen
 have fin:∀(V:View) (W:World) (a:Act) (fr:Fr) (H:ab),FrR V fr a->WR P w0 V H W->aU cb rd (os.drop ops.size) fr H=some r→
     (∀V' a' W' ex,bO w0 V V'->WR P w0 V' r.2.2 W'->FrR V' r.2.1 a'->ExR V' r.1 ex->Q ex a' W')->Q .normal a W:=by
   intro V W a fr H hF hW h hQ;rw[List.drop_of_length_le (by omega)]at h;cases h;exact hQ V a W _ (.refl w0 V) hW hF trivial
 have only:∀(k:Nat) (listed:Array Bool),listed.size=ops.size->(∀i,i<ops.size->listed.getD i false=decide (i<k))->s<=k->∀i∈Region.ready .any ops listed,i=k:=by
   intro k listed hs hl hk i hi;obtain⟨o,ho,hu,hr⟩:=(dx hs).1 hi;have hin:i<ops.size:=(Array.getElem?_eq_some_iff.1 ho).1
   have h1:¬i<k:=by rw[hl i hin]at hu;simpa using hu
   rcases Nat.lt_trichotomy i k with h|h|h
   . exact absurd h h1
   . exact h
   . exfalso
     rcases hD.pair k i h hin with ho2|⟨_,_,_,_,_,h2⟩
     . have hcl:qa ops (fun i=>listed.getD i false):=by
         intro j o e ho hj he hb;have hjn:j<ops.size:=(Array.getElem?_eq_some_iff.1 ho).1;have h3:=hD.back j o e ho he hb
         have h4:j<k:=by have:=hj;simp only[hl j hjn]at this;simpa using this
         show listed.getD e.on false=true
         rw[hl e.on (by omega)]
         simp;omega
       have:=ho2.ready hcl (fun o' e ho' he hb=>by rw[ho]at ho';cases ho';exact hr e he hb);simp only[hl k (by omega)]at this;simp at this
     . omega
 intro fuel
 induction fuel with
 | zero=>
   intro k listed V W a fr H hs hl hk hkn hf hrd hF hW h hQ
   have hkn':k=ops.size:=by omega
   subst hkn';refine⟨?_,fin V W a fr H hF hW h hQ⟩;apply List.eq_nil_iff_forall_not_mem.2;intro i hi;obtain⟨o,ho,hu,_⟩:=(dx hs).1 hi;have hin:i<ops.size:=(Array.getElem?_eq_some_iff.1 ho).1;rw[hl i hin]at hu;simp[hin]at hu
 | succ fuel ih=>
   intro k listed V W a fr H hs hl hk hkn hf hrd hF hW h hQ;refine⟨fun h0=> ?_,fun i hi=> ?_⟩
   . have:=kU hs hD.back h0
     have hkn':k=ops.size:=by
       apply Nat.le_antisymm hkn;apply Nat.le_of_not_lt;intro hlt;have h1:=this k hlt;rw[hl k hlt]at h1;simp at h1
     subst hkn';exact fin V W a fr H hF hW h hQ
   . have hik:=only k listed hs hl hk i hi;subst hik;obtain⟨o,ho,hu,_⟩:=(dx hs).1 hi;have hin:i<ops.size:=(Array.getElem?_eq_some_iff.1 ho).1;obtain⟨ao,hc,hao⟩:=hmap i o (by simpa using ho)
     have hdrop:os.drop i=ao::os.drop (i+1):=by
       rw[List.drop_eq_getElem_cons (by omega)];congr 1;have:=(List.getElem?_eq_some_iff.1 hao).2;exact this
     rw[hdrop]at h;unfold wpOpIn;rw[ho]
     exact uW hcb hrd hc hF hW h (fun V' a' W' fr' H' g1 g2 g3 g4=>ih (i+1) _ V' W' a' fr' H' (by simpa using hs) (fun j hj=>by
         rw[bS (by omega),hl j hj];by_cases h1:i=j
         . subst h1;simp
         . simp only[h1,decide_false,Bool.false_or,decide_eq_decide]
           omega) (by omega) (by omega) (by omega) (hrd.mono g1.le) g3 g2 g4 fun V'' a'' W'' ex k1=>hQ V'' a'' W'' ex (g1.trans k1)) (fun _=>hQ)
theorem wC {o:AOp} (h:o.still=true):o.quiet=true:=by cases o<;>first|exact h|rfl
theorem qH {o:Oper} {ao:ai} {fr:Fr} {next:Act->World->Prop} {v:AV} {H1:ab} (hc:dE P ops o=some ao) (hF:FrR V fr a) (hW:WR P w0 V H W) (hq:∀x xs,ao.op≠ .dfr x xs) (h:cE cb ao fr.tm H=some (v,H1))
   (hn:∀V' a' W',bO w0 V V'->WR P w0 V' H1 W'->FrR V' {fr with tm:=bV fr.tm ao.dst v} a'->next a' W'):
   if Region.wanted o (yielded ops a.tmps)then o.wpIn (Fk ro) 0 P a W next Q else(∀f,o.about P W a.eval=some f->(Fk ro).fn f)/\next (a.put o.dst undef) W:=by
 obtain⟨hop,hdst⟩:=gI hc;rw[fH hF.tm hc,hdst];unfold cE at h;have hnd:=cr hop hq;split at h
 . rename_i hw;rw[if_pos hw];refine⟨fun _ _=>trivial, ?_⟩;split at h
   . rename_i u hv;cases h;obtain⟨V',W',u,h1,h2,h3,h4,_⟩:=gy hW hF.tm hop hv;rw[Oper.semAt_eq _ _ _ hnd,h1,Oper.uponIn_value,hdst];exact hn V' _ W' (h3.grow hW.size (by simp)) h4 (bJ hF h3.le h2 _)
   . split at h
     . rename_i u H' hv;cases h;obtain⟨V',W',u,h1,h2,h3,h4⟩:=cu hW hF.tm hop hv;rw[Oper.semAt_eq _ _ _ hnd,h1,Oper.uponIn_value,hdst];exact hn V' _ W' h3 h4 (bJ hF h3.le h2 _)
     . rename_i H' hv;cases h;obtain⟨V',W',h1,h3,h4⟩:=cu hW hF.tm hop hv;rw[Oper.semAt_eq _ _ _ hnd,h1,Oper.uponIn_skip,hdst];exact hn V' _ W' h3 h4 (bJ hF h3.le (Rep.undef V') _)
     . cases h
 . rename_i hw;rw[if_neg hw];cases h;exact⟨fun _ _=>trivial,hn V _ W (.refl w0 V) hW (bJ hF (.refl V) (Rep.undef V) _)⟩
theorem yE (hcb:fD P cb) (hos:cK (dE P ops) ops.toList=some os) (hD:uK ops os s fs) (hX:vR ops os s fs lx sx)
   (tailk:∀(fuel k:Nat) (listed:Array Bool) (V:View) (W:World) (a:Act) (fr:Fr) (H:ab),
     listed.size=ops.size->(∀i,i<ops.size->listed.getD i false=decide (i<k))->s<=k->k<=ops.size->ops.size-k<=fuel->RdR V rd ro->FrR V fr a->WR P w0 V H W→
     aU cb rd (os.drop k) fr H=some r->(∀V' a' W' ex,bO w0 V V'->WR P w0 V' r.2.2 W'->FrR V' r.2.1 a'->ExR V' r.1 ex->Q ex a' W')→
     wpAnyIn (Fk ro) 0 P .any ops Q fuel listed a W) {fr:Fr}:
   ∀(fuel t:Nat) (wx:List (Option Nat×AV)) (listed:Array Bool) (V:View) (W:World) (a:Act) (Ht:ab),
   wx.length=s+t->s+t<=ops.size->(∀(j:Nat) (u:Option Nat×AV),wx[j]? =some u->∃y,os[j]? =some y/\u.1=y.dst)→
   listed.size=ops.size->cnt (listed.toList.take s)+(ops.size-(s+t))<=fuel->qa ops (fun i=>listed.getD i false)->(∀i,s<=i->i<ops.size->listed.getD i false=decide (i<s+t))→
   (∀m,m<s->listed.getD m false=false->∃y v,os[m]? =some y/\(y.op.still=true∨m∈fs)/\wx[m]? =some (y.dst,v)/\cE cb y (bt wx (fun j=>decide (j<m)) 0 fr.tm) Ht=some (v,Ht))→
   (fs≠[]->ck (lx.map (·.ev (bt wx (fun _=>true) 0 fr.tm))) (sx.map (·.ev (bt wx (fun _=>true) 0 fr.tm)))=true)→
   RdR V rd ro->FrR V {fr with tm:=bt wx (fun i=>listed.getD i false) 0 fr.tm} a->WR P w0 V Ht W→
   aU cb rd (os.drop (s+t)) {fr with tm:=bt wx (fun _=>true) 0 fr.tm} Ht=some r→
   (∀V' a' W' ex,bO w0 V V'->WR P w0 V' r.2.2 W'->FrR V' r.2.1 a'->ExR V' r.1 ex->Q ex a' W')→
   wpAnyIn (Fk ro) 0 P .any ops Q fuel listed a W:=by
 obtain⟨hlen,hmap⟩:=dY hos;simp only[Array.length_toList]at hlen;intro fuel
 induction fuel with
 | zero=>
   intro t wx listed V W a Ht hwl hst hwd hs hcn hcl hun hfl hfv hrd hF hW h hQ
   have hall:∀i,i<s->listed.getD i false=true:=by
     intro i hi
     have hil:i<listed.size:=by omega
     have:=oX (listed.toList.take s) (by omega) i listed[i] (by rw[List.getElem?_take,if_pos hi];simp[hil]);simp[hil,this]
   have e:bt wx (fun i=>listed.getD i false) 0 fr.tm=bt wx (fun _=>true) 0 fr.tm:=uN wx _ _ 0 _ (fun j hj=>by
     simp only[Nat.zero_add];by_cases hjs:j<s
     . exact hall j hjs
     . rw[hun j (by omega) (by omega)];simp;omega)
   rw[e]at hF
   exact tailk 0 (s+t) listed V W a _ Ht hs (fun i hi=>by
     by_cases his:i<s
     . rw[hall i his];simp;omega
     . exact hun i (by omega) hi) (by omega) hst (by omega) hrd hF hW h hQ
 | succ fuel ih=>
   intro t wx listed V W a Ht hwl hst hwd hs hcn hcl hun hfl hfv hrd hF hW h hQ;by_cases hall:∀i,i<s->listed.getD i false=true
   . have e:bt wx (fun i=>listed.getD i false) 0 fr.tm=bt wx (fun _=>true) 0 fr.tm:=uN wx _ _ 0 _ (fun j hj=>by
       simp only[Nat.zero_add];by_cases hjs:j<s
       . exact hall j hjs
       . rw[hun j (by omega) (by omega)];simp;omega)
     rw[e]at hF
     exact tailk (fuel+1) (s+t) listed V W a _ Ht hs (fun i hi=>by
       by_cases his:i<s
       . rw[hall i his];simp;omega
       . exact hun i (by omega) hi) (by omega) hst (by omega) hrd hF hW h hQ
   . have hex:∃m,m<s/\listed.getD m false=false:=by
       apply Classical.byContradiction;intro hno;apply hall;intro i hi
       cases hb:listed.getD i false with
       |true=>rfl
       |false=>exact absurd ⟨i,hi,hb⟩ hno
     obtain⟨m,hm,hmu⟩:=hex;refine⟨fun h0=> ?_,fun i hi=> ?_⟩
     . have:=kU hs hD.back h0 m (by omega);rw[hmu]at this;cases this
     . obtain⟨o,ho,hu,hr⟩:=(dx hs).1 hi;have hin:i<ops.size:=(Array.getElem?_eq_some_iff.1 ho).1
       have hrd':∀j,Ord ops j i->listed.getD j false=true:=fun j hj=>hj.ready hcl (fun o' e ho' he hb=>by rw[ho]at ho';cases ho';exact hr e he hb)
       obtain⟨ao,hc,hao⟩:=hmap i o (by simpa using ho)
       have later:∀j,Ord ops i j->listed.getD j false=false:=by
         intro j hord
         cases hb:listed.getD j false with
         |false=>rfl
         | true=>
           have:=hord.listed hcl (L:=fun i=>listed.getD i false) hb;simp only[hu]at this;cases this
       by_cases his:i<s
       . --a still one
         obtain⟨y,v,hy,hys,hwv,hv⟩:=hfl i his hu;rw[hao]at hy;cases hy
         have cur:∀t'∈ao.reads,(bt wx (fun i=>listed.getD i false) 0 fr.tm)[t']? =(bt wx (fun j=>decide (j<i)) 0 fr.tm)[t']? :=by
           intro t' ht;refine cM wx _ _ 0 _ _ rfl rfl (fun j u hj=> ?_);obtain⟨y,hy,hyd⟩:=hwd j _ hj;simp only[Nat.zero_add]
           have hjn:j<ops.size:=by have:=(List.getElem?_eq_some_iff.1 hj).1;omega
           rcases Nat.lt_trichotomy j i with hji|hji|hji
           . rw[decide_eq_true hji]
             rcases hD.pair j i hji hin with h1|⟨x,z,hx,hz,hxz,_⟩
             . exact hrd' j h1
             . rw[hy]at hx;rw[hao]at hz
               cases hx;cases hz;exact absurd ht ((dR hxz).1 t' hyd.symm)
           . subst hji
             rw[hu];simp
           . rw[decide_eq_false (by omega)]
             rcases hD.pair i j hji hjn with h1|⟨x,z,hx,hz,hxz,_⟩
             . exact later j h1
             . rw[hao]at hx;rw[hy]at hz
               cases hx;cases hz;exact absurd ht ((dR hxz).2.2 t' hyd.symm)
         have hyk:ao.op.quiet=true∨∃sz ag x,ao.op= .load sz ag x:=by
           rcases hys with h1|h1
           . exact .inl (wC h1)
           . obtain⟨z,sz,ag,k,hz,hzo,_⟩:=hX.ld i h1;rw[hao]at hz;cases hz;exact .inr ⟨sz,ag,_,hzo⟩
         rw[<-rq hyk cur]at hv
         have hput:bV (bt wx (fun i=>listed.getD i false) 0 fr.tm) ao.dst v=bt wx (fun j=>(listed.setIfInBounds i true).getD j false) 0 fr.tm:=by
           apply List.ext_getElem?;intro t';by_cases hdt:ao.dst=some t'
           . by_cases htl:t'<fr.tm.length
             . rw[hdt,lM (by rw[dS];exact htl)];refine(mw wx _ 0 i fr.tm (by rw[hwv,hdt]) (by rw[bS (by omega)];simp) htl (fun j u hj hw=> ?_)).symm;obtain⟨y,hy,hyd⟩:=hwd j _ hw
               have hjn:j<ops.size:=by have:=(List.getElem?_eq_some_iff.1 hw).1;omega
               simp only[Nat.zero_add];rw[bS (by omega)]
               have hne:¬i=j:=by omega
               simp only[hne,decide_false,Bool.false_or]
               rcases hD.pair i j hj hjn with h1|⟨x,z,hx,hz,hxz,_⟩
               . exact later j h1
               . rw[hao]at hx;rw[hy]at hz
                 cases hx;cases hz;exact absurd hyd.symm ((dR hxz).2.1 t' hdt)
             . rw[List.getElem?_eq_none (by rw[dV,dS];omega),List.getElem?_eq_none (by rw[dS];omega)]
           . rw[oy hdt];refine cM wx _ _ 0 _ _ rfl rfl (fun j u hj=> ?_);obtain⟨y,hy,hyd⟩:=hwd j _ hj;simp only[Nat.zero_add];rw[bS (by omega)]
             have hne:¬i=j:=by
               rintro rfl
               rw[hao]at hy;cases hy;exact hdt hyd.symm
             simp[hne]
         unfold wpOpIn;rw[ho]
         refine qH (cb:=cb) hc hF hW (by
           rintro x xs hx
           rcases hyk with h1|⟨_,_,_,h1⟩
           . rw[hx]at h1;cases h1
           . rw[hx]at h1;cases h1) hv (fun V' a' W' g1 g2 g3=> ?_)
         simp only[hput]at g3;refine ih t wx _ V' W' a' Ht hwl hst hwd (by simpa using hs) ?_ ?_ (fun j hj hjn=> ?_) (fun m' hm' hmu'=> ?_) hfv (hrd.mono g1.le) g3 g2 h (fun V'' a'' W'' ex k1=>hQ V'' a'' W'' ex (g1.trans k1))
         . have:cnt ((listed.toList.take s).set i true)+1=cnt (listed.toList.take s):=uG _ i (by
             have hil:i<listed.size:=by omega
             rw[List.getElem?_take,if_pos his];simp[hil]at hu ⊢
             exact hu)
           rw[Array.toList_setIfInBounds,List.take_set];omega
         . intro j o' e ho' hj he hb;simp only[bS (show i<listed.size by omega)]at hj ⊢;rw[Bool.or_eq_true]at hj ⊢
           rcases hj with hj|hj
           . simp at hj;subst hj;rw[ho]at ho';cases ho';exact .inr (hr e he hb)
           . exact .inr (hcl j o' e ho' hj he hb)
         . rw[bS (by omega),hun j hj hjn]
           have hne:¬i=j:=by omega
           simp[hne]
         . rw[bS (by omega),Bool.or_eq_false_iff]at hmu';exact hfl m' hm' hmu'.2
       . --the next act
         have hit:i=s+t:=by
           rcases Nat.lt_trichotomy i (s+t)with h1|h1|h1
           . rw[hun i (by omega) hin]at hu;simp at hu;omega
           . exact h1
           . exfalso
             rcases hD.pair (s+t) i h1 hin with h2|⟨_,_,_,_,_,h2⟩
             . have:=hrd' _ h2;rw[hun (s+t) (by omega) (by omega)]at this;simp at this
             . omega
         have apt:∀m',m'<s->listed.getD m' false=false->∃x,os[m']? =some x/\oM x ao=true/\ao.op.quiet=true:=by
           intro m' hm' hmu'
           rcases hD.pair m' i (by omega) hin with h1|⟨x,z,hx,hz,hxz,h2⟩
           . have:=hrd' _ h1;rw[hmu']at this;cases this
           . rw[hao]at hz;cases hz
             rcases h2 with h2|h2
             . omega
             . exact⟨x,hx,hxz,h2.2.2⟩
         obtain⟨_,_,_,hq⟩:=apt m hm hmu;subst hit
         have hdrop:os.drop (s+t)=ao::os.drop (s+(t+1)):=by
           rw[List.drop_eq_getElem_cons (by omega)];congr 1;exact(List.getElem?_eq_some_iff.1 hao).2
         rw[hdrop]at h;obtain⟨v,H1,q1,q2⟩:=uI hq h
         have cur:∀t'∈ao.reads,(bt wx (fun i=>listed.getD i false) 0 fr.tm)[t']? =(bt wx (fun _=>true) 0 fr.tm)[t']? :=by
           intro t' ht;refine cM wx _ _ 0 _ _ rfl rfl (fun j u hj=> ?_);obtain⟨y,hy,hyd⟩:=hwd j _ hj;simp only[Nat.zero_add]
           have hjn:j<s+t:=by have:=(List.getElem?_eq_some_iff.1 hj).1;omega
           cases hb:listed.getD j false with
           |true=>rfl
           | false=>
             have hjs:j<s:=by
               apply Nat.lt_of_not_le;intro hle;rw[hun j hle (by omega)]at hb;simp at hb;omega
             obtain⟨x,hx,hxa,_⟩:=apt j hjs hb;rw[hy]at hx;cases hx;exact absurd ht ((dR hxa).1 t' hyd.symm)
         have q1':cE cb ao (bt wx (fun i=>listed.getD i false) 0 fr.tm) Ht=some (v,H1):=by
           rw[lE hq cur];exact q1
         unfold wpOpIn;rw[ho];refine qH (cb:=cb) hc hF hW (by rintro x xs hx;rw[hx]at hq;cases hq) q1' (fun V' a' W' g1 g2 g3=> ?_)
         have hL:∀j,j<wx.length->listed.getD (0+j) false=(listed.setIfInBounds (s+t) true).getD (0+j) false:=by
           intro j hj;rw[bS (by omega)]
           have hne:¬s+t=0+j:=by omega
           simp only[hne,decide_false,Bool.false_or]
         have hput:bV (bt wx (fun i=>listed.getD i false) 0 fr.tm) ao.dst v=bt (wx++[(ao.dst,v)]) (fun j=>(listed.setIfInBounds (s+t) true).getD j false) 0 fr.tm:=by
           rw[jC,uN wx (fun i=>listed.getD i false) (fun j=>(listed.setIfInBounds (s+t) true).getD j false) 0 fr.tm hL];rw[if_pos (by rw[Nat.zero_add,hwl,bS (by omega)];simp)]
         have hfull:bV (bt wx (fun _=>true) 0 fr.tm) ao.dst v=bt (wx++[(ao.dst,v)]) (fun _=>true) 0 fr.tm:=by
           rw[jC,if_pos rfl]
         simp only[hput]at g3;simp only[hfull]at q2;refine ih (t+1) (wx++[(ao.dst,v)]) _ V' W' a' H1 (by rw[List.length_append,hwl];rfl) (by omega) (fun j u hj=> ?_) (by simpa using hs) ?_ ?_ (fun j hj hjn=> ?_) (fun m' hm' hmu'=> ?_) (fun hne=> ?_) (hrd.mono g1.le) g3 g2 q2 (fun V'' a'' W'' ex k1=>hQ V'' a'' W'' ex (g1.trans k1))
         . by_cases hjl:j<wx.length
           . rw[List.getElem?_append_left hjl]at hj;exact hwd j u hj
           . rw[List.getElem?_append_right (by omega)]at hj
             have:j-wx.length=0:=by have:=(List.getElem?_eq_some_iff.1 hj).1;simp at this;omega
             rw[this]at hj;cases hj
             have:j=s+t:=by omega
             subst this;exact⟨ao,hao,rfl⟩
         . have:((listed.setIfInBounds (s+t) true).toList.take s)=listed.toList.take s:=by
             rw[Array.toList_setIfInBounds,List.take_set_of_le (by omega)]
           rw[this];omega
         . intro j o' e ho' hj he hb;simp only[bS (show s+t<listed.size by omega)]at hj ⊢;rw[Bool.or_eq_true]at hj ⊢
           rcases hj with hj|hj
           . simp at hj;subst hj;rw[ho]at ho';cases ho';exact .inr (hr e he hb)
           . exact .inr (hcl j o' e ho' hj he hb)
         . rw[bS (by omega),hun j hj hjn];by_cases hne:s+t=j
           . subst hne;simp
           . simp only[hne,decide_false,Bool.false_or,decide_eq_decide];omega
         . rw[bS (by omega),Bool.or_eq_false_iff]at hmu';obtain⟨y,u,y1,y2,y3,y4⟩:=hfl m' hm' hmu'.2;refine⟨y,u,y1,y2,by rw[List.getElem?_append_left (by omega)];exact y3, ?_⟩;rw[jC,if_neg (by simp;omega)]
           rcases y2 with h1|h1
           . exact uq h1 y4
           . obtain⟨z,sz,ag,k,hz,hzo,hzl,hzd⟩:=hX.ld m' h1;rw[y1]at hz;cases hz;refine wj hzo y4 (fun id p cs he hg=>vo hq q1 (fun sz' a' x' ho' id' p' ha'=> ?_) hg)
             have hk:(X.t k).ev (bt wx (fun j=>decide (j<m')) 0 fr.tm)=(X.t k).ev (bt wx (fun _=>true) 0 fr.tm):=by
               have:(bt wx (fun j=>decide (j<m')) 0 fr.tm)[k]? =(bt wx (fun _=>true) 0 fr.tm)[k]? :=cM wx _ _ 0 _ _ rfl rfl (fun j v hj=>by
                 obtain⟨w,hw,hwd'⟩:=hwd j _ hj;simp only[Nat.zero_add];by_cases hjm:j<m'
                 . simp[hjm]
                 . exact absurd hwd'.symm (hzd j w (by omega) hw))
               simp[X.ev,List.getD_eq_getElem?_getD,this]
             rw[hk]at he
             rcases hX.st m' h1 (s+t) ao sz' a' x' (by omega) (fun ho2=>by have:=hrd' _ ho2;rw[hmu'.2]at this;cases this) hao ho' with hsn|hsm
             . exact absurd (List.mem_map.2 ⟨_,hsn,rfl⟩) (n9 (hfv (List.ne_nil_of_mem h1)) (List.mem_map.2 ⟨_,hzl,he⟩))
             . exact sW (hfv (List.ne_nil_of_mem h1)) (List.mem_map.2 ⟨_,hzl,he⟩) (List.mem_map.2 ⟨_,hsm,ha'⟩)
         . obtain⟨i0,hi0⟩:=List.exists_mem_of_ne_nil fs hne;have hdd:=hX.dst i0 hi0 (s+t) ao;rw[<-hfull]
           have hev:∀x∈lx++sx,x.ev (bV (bt wx (fun _=>true) 0 fr.tm) ao.dst v)=x.ev (bt wx (fun _=>true) 0 fr.tm):=lA (fun t' ht'=>by
             cases hd:ao.dst with
             |none=>rfl
             | some d=>
               refine oy (fun e=> ?_);have e2:=Option.some.inj e;subst e2
               exact hdd d (by omega) hao hd ht')
           have e1:=hfv hne;rw[List.map_congr_left (fun x hx=>hev x (List.mem_append.2 (.inl hx))),List.map_congr_left (l:=sx) (fun x hx=>hev x (List.mem_append.2 (.inr hx)))];exact e1
theorem KZ {G:ab} {o:ai} {tm:List AV} {g:Nat} {v:AV} {k:Option av} (hs:o.op.still=true∨∃sz ag x,o.op= .load sz ag x) (h:ap1 cb H G o tm g=some (v,k)) (X:ab):
   cE cb o tm (H++X)=some (v,H++X)/\k=none:=by
 unfold ap1 at h;unfold cE;split at h
 . rename_i hw;rw[if_pos hw];split at h
   . rename_i u hv;cases h;rw[xH X hv];exact⟨rfl,rfl⟩
   . exfalso
     rcases hs with hs|⟨sz,ag,x,ho⟩
     . revert hs h
       cases o.op<;>intro hs h<;>first|(cases hs;done)|(cases h;done)
     . rw[ho]at h;cases h
 . rename_i hw;rw[if_neg hw];cases h;exact⟨rfl,rfl⟩
theorem EZ (hcb:fD P cb) (hos:cK (dE P ops) ops.toList=some os) (hD:uK ops os s fs) (hX:vR ops os s fs lx sx) (hsn:s<=ops.size) {fr:Fr} {tm':List AV} {ws:List (Option Nat×AV)} {ks:List (Option av)} {kl:List (Option Nat)} {Es:Nat->List av}
   (hC:Can cb H (os.take s) fr.tm ws ks kl Es) (htm:tm'=bt ws (fun _=>true) 0 fr.tm)
   (hfv:fs≠[]->ck (lx.map (·.ev tm')) (sx.map (·.ev tm'))=true)
   (h:aU cb rd (os.drop s) {fr with tm:=tm'} (H++Es s)=some r):∀(fuel:Nat) (listed:Array Bool) (V:View) (W:World) (a:Act),
   listed.size=ops.size->cnt (listed.toList.take s)+(ops.size-s)<=fuel->qa ops (fun i=>listed.getD i false)->(∀i,s<=i->listed.getD i false=false)->RdR V rd ro→
   FrR V {fr with tm:=bt ws (fun i=>listed.getD i false) 0 fr.tm} a->WR P w0 V (H++eR ks (dU ks kl H.length fun i=>listed.getD i false) 0) W→
   (∀c o,ks[c]? =some (some o)->listed.getD c false=false->V.loc (H.length+bG ks c)=none)→
   (∀j c o,listed.getD j false=true->kl[j]? =some (some (H.length+bG ks c))->ks[c]? =some (some o)->listed.getD c false=true)→
   (∀V' a' W' ex,bO w0 V V'->WR P w0 V' r.2.2 W'->FrR V' r.2.1 a'->ExR V' r.1 ex->Q ex a' W')→
   wpAnyIn (Fk ro) 0 P .any ops Q fuel listed a W:=by
 obtain⟨hlen,hmap⟩:=dY hos;simp only[Array.length_toList]at hlen
 have hsl:(os.take s).length=s:=by rw[List.length_take];omega
 have hwl:ws.length=(os.take s).length:=hC.wl;have hkl:ks.length=(os.take s).length:=hC.l1;have hkl2:kl.length=(os.take s).length:=hC.l2;have hws:=hC.st;have hend:=hC.end;rw[hsl]at hend
 have tk:∀i,i<s->(os.take s)[i]? =os[i]? :=fun i hi=>by rw[List.getElem?_take,if_pos hi]
 have wdst:∀(j t:Nat) (v:AV),ws[j]? =some (some t,v)->j<s/\∃y,os[j]? =some y/\y.dst=some t:=by
   intro j t v hj
   have hjs:j<s:=by have:=(List.getElem?_eq_some_iff.1 hj).1;omega
   have:j<os.length:=by omega
   obtain⟨u,_,hu,_,_,_,_⟩:=hws j os[j] (by rw[tk j hjs];simp[this]);rw[hj]at hu;simp only[Option.some.injEq,Prod.mk.injEq]at hu;exact⟨hjs,os[j],by simp[this],hu.1.symm⟩
 have full:∀listed:Array Bool,(∀j,j<s->(∃o,ks[j]? =some (some o))->listed.getD j false=true)->(∀j,j<s->(∃g0,kl[j]? =some (some g0))->listed.getD j false=true)→
     eR ks (dU ks kl H.length fun i=>listed.getD i false) 0=Es s:=by
   intro listed h1 h2;rw[hend];refine iy ks _ _ 0 (fun j sz hj=> ?_)
   have hjs:j<s:=by have:=(List.getElem?_eq_some_iff.1 hj).1;omega
   have sp:fe kl H.length (fun i=>listed.getD i false) (bG ks j)=fe kl H.length (fun _=>true) (bG ks j):=by
     rw[Bool.eq_iff_iff,cC,cC];constructor
     . rintro ⟨q,_,hq⟩;exact⟨q,rfl,hq⟩
     . rintro ⟨q,_,hq⟩
       have hqs:q<s:=by have:=(List.getElem?_eq_some_iff.1 hq).1;omega
       exact⟨q,h2 q hqs ⟨_,hq⟩,hq⟩
   simp only[dU,Nat.zero_add,sp,h1 j hjs ⟨_,hj⟩]
 intro fuel
 induction fuel with
 | zero=>
   intro listed V W a hs hcn hcl hun hrd hF hW hdl hki hQ
   have hcn':s=ops.size/\cnt (listed.toList.take s)=0:=by omega
   have hall:∀i,i<s->listed.getD i false=true:=by
     intro i hi
     have hil:i<listed.size:=by omega
     have:=oX _ hcn'.2 i listed[i] (by rw[List.getElem?_take,if_pos hi];simp[hil]);simp[hil,this]
   have e:bt ws (fun i=>listed.getD i false) 0 fr.tm=tm':=by
     rw[htm];apply List.ext_getElem?;intro t
     exact cM ws _ _ 0 _ _ rfl rfl (fun j v hj=>by
       obtain⟨hjs,_⟩:=wdst j t v hj
       simpa using hall j hjs)
   rw[e]at hF;have e2:=full listed (fun j hj _=>hall j hj) (fun j hj _=>hall j hj);rw[e2]at hW;exact nh hcb hos hD 0 s listed V W a _ _ hs (fun i hi=>by rw[hall i (by omega)];simp;omega) (Nat.le_refl _) hsn (by omega) hrd hF hW h hQ
 | succ fuel ih=>
   intro listed V W a hs hcn hcl hun hrd hF hW hdl hki hQ;by_cases hall:∀i,i<s->listed.getD i false=true
   . have e:bt ws (fun i=>listed.getD i false) 0 fr.tm=tm':=by
       rw[htm];apply List.ext_getElem?;intro t
       exact cM ws _ _ 0 _ _ rfl rfl (fun j v hj=>by
         obtain⟨hjs,_⟩:=wdst j t v hj
         simpa using hall j hjs)
     rw[e]at hF;have e2:=full listed (fun j hj _=>hall j hj) (fun j hj _=>hall j hj);rw[e2]at hW;refine nh hcb hos hD (fuel+1) s listed V W a _ _ hs (fun i hi=> ?_) (Nat.le_refl _) hsn (by omega) hrd hF hW h hQ;by_cases his:i<s
     . rw[hall i his];simp[his]
     . rw[hun i (by omega)];simp;omega
   . by_cases hstill:∀m,m<s->listed.getD m false=false->∃y,os[m]? =some y/\(y.op.still=true∨m∈fs)
     . --what is left is still
       have hkn:∀m y,os[m]? =some y->(y.op.still=true∨m∈fs)->m<s->∃v,ws[m]? =some (y.dst,v)/\ks[m]? =some none/\kl[m]? =some none/\cE cb y (bt ws (fun j=>decide (j<m)) 0 fr.tm) (H++Es s)=some (v,H++Es s):=by
         intro m y hy hys hm;obtain⟨v,k,k1,k2,k4,_,k3⟩:=hws m y (by rw[tk m hm];exact hy)
         have hys2:y.op.still=true∨∃sz ag x,y.op= .load sz ag x:=hys.imp id (fun h1=>by
           obtain⟨z,sz,ag,q,hz,hzo,_⟩:=hX.ld m h1;rw[hy]at hz;cases hz
           exact⟨sz,ag,_,hzo⟩)
         obtain⟨e1,e2⟩:=KZ hys2 k3 (Es s);subst e2;refine⟨v,k1,k2, ?_,e1⟩;rw[k4]
         cases hq:bM y (bt ws (fun j=>decide (j<m)) 0 fr.tm)with
         |none=>rfl
         | some g0=>
           obtain⟨_,_,_,_,_,_,_,_,_,ho,_⟩:=nK hq;rw[ho]at hys2
           rcases hys2 with h1|⟨_,_,_,h1⟩<;>cases h1
       have e2:=full listed (fun j hj ho=>by
         cases hb:listed.getD j false with
         |true=>rfl
         | false=>
           obtain⟨y,hy,hys⟩:=hstill j hj hb;obtain⟨_,_,h2,_⟩:=hkn j y hy hys hj;obtain⟨o,ho⟩:=ho;rw[h2]at ho
           cases ho) (fun j hj ho=>by
         cases hb:listed.getD j false with
         |true=>rfl
         | false=>
           obtain⟨y,hy,hys⟩:=hstill j hj hb;obtain⟨_,_,_,h2,_⟩:=hkn j y hy hys hj;obtain⟨o,ho⟩:=ho;rw[h2]at ho
           cases ho)
       rw[e2]at hW;rw[htm]at h hfv;refine yE hcb hos hD hX (nh hcb hos hD) (fuel+1) 0 ws listed V W a _ (by omega) (by omega) (fun j u hj=> ?_) hs (by simpa using hcn) hcl (fun i hi hin=>by rw[hun i hi];simp;omega) (fun m hm hmu=> ?_) hfv hrd hF hW h hQ
       . have hjs:j<s:=by have:=(List.getElem?_eq_some_iff.1 hj).1;omega
         have hjo:j<os.length:=by omega
         obtain⟨v,_,k1,_,_,_,_⟩:=hws j os[j] (by rw[tk j hjs];simp[hjo]);rw[hj]at k1;cases k1;exact⟨os[j],by simp[hjo],rfl⟩
       . obtain⟨y,hy,hys⟩:=hstill m hm hmu;obtain⟨v,k1,_,_,k3⟩:=hkn m y hy hys hm;exact⟨y,v,hy,hys,k1,k3⟩
     have hex:∃m,m<s/\listed.getD m false=false/\¬∃y,os[m]? =some y/\(y.op.still=true∨m∈fs):=by
       apply Classical.byContradiction;intro hno
       exact hstill fun i hi hb=>Classical.byContradiction fun hc=>hno ⟨i,hi,hb,hc⟩
     obtain⟨m,hm,hmu,hms⟩:=hex;refine⟨fun h0=> ?_,fun i hi=> ?_⟩
     . have:=kU hs hD.back h0 m (by omega);rw[hmu]at this;cases this
     . obtain⟨o,ho,hu,hr⟩:=(dx hs).1 hi;have hin:i<ops.size:=(Array.getElem?_eq_some_iff.1 ho).1
       have hrd':∀j,Ord ops j i->listed.getD j false=true:=fun j hj=>hj.ready hcl (fun o' e ho' he hb=>by rw[ho]at ho';cases ho';exact hr e he hb)
       have his:i<s:=by
         apply Nat.lt_of_not_le;intro hsi
         rcases hD.pair m i (by omega) hin with h1|⟨x,_,hx,_,_,h1⟩
         . have:=hrd' m h1;rw[hmu]at this;cases this
         . rcases h1 with h1|h1
           . omega
           . exact hms ⟨x,hx,h1.2.1⟩
       obtain⟨ao,hc,hao⟩:=hmap i o (by simpa using ho);obtain⟨v,k,hwv,hkv,hlv,hEs,hap⟩:=hws i ao (by rw[tk i his];exact hao);have hpl:=hC.len i (by omega)
       have later:∀j,i<j->Ord ops i j->listed.getD j false=false:=by
         intro j hj hord
         cases hb:listed.getD j false with
         |false=>rfl
         | true=>
           have:=hord.listed hcl (L:=fun i=>listed.getD i false) hb;simp only[hu]at this;cases this
       have cng:∀t∈ao.reads,(bt ws (fun i=>listed.getD i false) 0 fr.tm)[t]? =(bt ws (fun j=>decide (j<i)) 0 fr.tm)[t]? :=by
         intro t ht;refine cM ws _ _ 0 _ _ rfl rfl (fun j u hj=> ?_);obtain⟨hjs,y,hy,hyd⟩:=wdst j t u hj;simp only[Nat.zero_add]
         rcases Nat.lt_trichotomy j i with hji|hji|hji
         . rw[decide_eq_true hji]
           rcases hD.pair j i hji hin with h1|⟨x,z,hx,hz,hxz,_⟩
           . exact hrd' j h1
           . rw[hy]at hx;rw[hao]at hz
             cases hx;cases hz;exact absurd ht ((dR hxz).1 t hyd)
         . subst hji
           rw[hu];simp
         . rw[decide_eq_false (by omega)]
           rcases hD.pair i j hji (by omega)with h1|⟨x,z,hx,hz,hxz,_⟩
           . exact later j hji h1
           . rw[hao]at hx;rw[hy]at hz
             cases hx;cases hz;exact absurd ht ((dR hxz).2.2 t hyd)
       have hag:ap1 cb H (H++Es i) ao (bt ws (fun i=>listed.getD i false) 0 fr.tm) (H.length+bG ks i)=some (v,k):=by
         rw[<-hap,hpl];exact B4 cng
       have hkq:bM ao (bt ws (fun i=>listed.getD i false) 0 fr.tm)=bM ao (bt ws (fun j=>decide (j<i)) 0 fr.tm):=tN cng;rw[<-hkq]at hlv
       have hput:bV (bt ws (fun i=>listed.getD i false) 0 fr.tm) ao.dst v=bt ws (fun j=>(listed.setIfInBounds i true).getD j false) 0 fr.tm:=by
         apply List.ext_getElem?;intro t;by_cases hdt:ao.dst=some t
         . by_cases htl:t<fr.tm.length
           . rw[hdt,lM (by rw[dS];exact htl)];refine(mw ws _ 0 i fr.tm (by rw[hwv,hdt]) (by rw[bS (by omega)];simp) htl (fun j u hj hw=> ?_)).symm;obtain⟨hjs,y,hy,hyd⟩:=wdst j t u hw;simp only[Nat.zero_add];rw[bS (by omega)]
             have hne:¬i=j:=by omega
             simp only[hne,decide_false,Bool.false_or]
             rcases hD.pair i j hj (by omega)with h1|⟨x,z,hx,hz,hxz,_⟩
             . exact later j hj h1
             . rw[hao]at hx;rw[hy]at hz
               cases hx;cases hz;exact absurd hyd ((dR hxz).2.1 t hdt)
           . rw[List.getElem?_eq_none (by rw[dV,dS];omega),List.getElem?_eq_none (by rw[dS];omega)]
         . rw[oy hdt];refine cM ws _ _ 0 _ _ rfl rfl (fun j u hj=> ?_);obtain⟨hjs,y,hy,hyd⟩:=wdst j t u hj;simp only[Nat.zero_add];rw[bS (by omega)]
           have hne:¬i=j:=by
             rintro rfl
             rw[hao]at hy;cases hy;exact hdt hyd
           simp[hne]
       generalize hq:bM ao (bt ws (fun i=>listed.getD i false) 0 fr.tm)=q at hlv
       have hX1:∀c o,ks[c]? =some (some o)->(H++eR ks (dU ks kl H.length fun i=>listed.getD i false) 0)[H.length+bG ks c]? =some (if dU ks kl H.length (fun i=>listed.getD i false) c then o else .dead):=fun c o hk=>by
         rw[List.getElem?_append_right (by omega),Nat.add_sub_cancel_left,lX ks _ 0 c hk,Nat.zero_add]
       have hdead:∀sz,k=some sz->(H++eR ks (dU ks kl H.length fun i=>listed.getD i false) 0)[H.length+bG ks i]? =some .dead/\V.loc (H.length+bG ks i)=none:=by
         rintro sz rfl
         refine⟨?_,hdl i sz hkv hu⟩;rw[hX1 i sz hkv];simp[dU,hu]
       have seen:∀p o,(Es i)[p]? =some o->o≠ .dead->(∃l,V.loc (H.length+p)=some l)->∃c,ks[c]? =some (some o)/\bG ks c=p/\listed.getD c false=true/\c<i:=by
         intro p o hp hnd hl
         have hpi:p<bG ks i:=by rw[<-hpl];exact(List.getElem?_eq_some_iff.1 hp).1
         obtain⟨c,o',hc,hk,rfl⟩:=kI hpi;rw[hC.get i (by omega) c o' hk hc]at hp;split at hp
         . cases hp;exact absurd rfl hnd
         . cases hp;refine⟨c,hk,rfl, ?_,hc⟩
           cases hb:listed.getD c false with
           |true=>rfl
           | false=>
             obtain⟨l,hl⟩:=hl;rw[hdl c _ hk hb]at hl;cases hl
       unfold wpOpIn;rw[ho];refine MN hcb (fun id es hid hl=> ?_) (fun g0 sz3 hg0 hid hl=> ?_) hc hF hW hag hdead (fun V' a' W' g1 g2 g5 g6 g3=> ?_)
       . by_cases hlt:id<H.length
         . rw[List.getElem?_append_left hlt]at hid ⊢;exact hid
         . obtain⟨p,rfl⟩:∃p,id=H.length+p:=⟨id-H.length,by omega⟩;rw[List.getElem?_append_right (by omega),Nat.add_sub_cancel_left]at hid;obtain⟨c,hk,rfl,hlc,hci⟩:=seen p _ hid (by intro e;cases e) hl;rw[hX1 c _ hk,if_pos];simp only[dU,hlc,Bool.true_and,Bool.not_eq_true']
           cases hsp:fe kl H.length (fun i=>listed.getD i false) (bG ks c)with
           |false=>rfl
           | true=>
             obtain⟨j,hj,hkj⟩:=cC.1 hsp;obtain⟨hjl,_⟩:=hC.kill hkj;obtain⟨h1,sz,h2⟩:=hC.lj hkj;obtain⟨c',o',hc',hk',hpc⟩:=kI h1;rw[<-hpc,hC.get j (by omega) c' o' hk' hc']at h2;have:=qj hk' hk hpc;subst this;rw[hk]at hk';cases hk'
             split at h2<;>cases h2
       . simp only at hg0;rw[hq]at hg0;subst hg0;obtain⟨_,hge,_⟩:=hC.kill hlv;obtain⟨p,rfl⟩:∃p,g0=H.length+p:=⟨g0-H.length,by omega⟩;rw[List.getElem?_append_right (by omega),Nat.add_sub_cancel_left]at hid;obtain⟨c,hk,rfl,hlc,hci⟩:=seen p _ hid (by intro e;cases e) hl;rw[hX1 c _ hk,if_pos];simp only[dU,hlc,Bool.true_and,Bool.not_eq_true']
         cases hsp:fe kl H.length (fun i=>listed.getD i false) (bG ks c)with
         |false=>rfl
         | true=>
           obtain⟨j,hj,hkj⟩:=cC.1 hsp;have:=hC.one hkj hlv;subst this;rw[hu]at hj;cases hj
       simp only[hput]at g3;simp only at g2 g6;rw[hq]at g2 g6
       have nokill:q≠some (H.length+bG ks i):=by
         rintro rfl
         obtain⟨h1,_⟩:=hC.lj hlv;omega
       have hL:∀c,(listed.setIfInBounds i true).getD c false=(decide (i=c)||listed.getD c false):=fun c=>bS (by omega) c
       have hsp:∀p,fe kl H.length (fun j=>(listed.setIfInBounds i true).getD j false) p=(fe kl H.length (fun j=>listed.getD j false) p||decide (q=some (H.length+p))):=by
         intro p;rw[Bool.eq_iff_iff,Bool.or_eq_true,cC,cC,decide_eq_true_eq];constructor
         . rintro ⟨j,hj,hk⟩
           rw[hL]at hj;by_cases hij:i=j
           . subst hij;rw[hlv]at hk;exact .inr (Option.some.inj hk)
           . simp only[hij,decide_false,Bool.false_or]at hj;exact .inl ⟨j,hj,hk⟩
         . rintro (⟨j,hj,hk⟩|rfl)
           . exact⟨j,by rw[hL,hj,Bool.or_true],hk⟩
           . exact⟨i,by rw[hL];simp,hlv⟩
       have hheap:nL (ff (H++eR ks (dU ks kl H.length fun i=>listed.getD i false) 0) (H.length+bG ks i) k) q=H++eR ks (dU ks kl H.length fun j=>(listed.setIfInBounds i true).getD j false) 0:=by
         have hlen1:∀Y g' k',(ff Y g' k').length=Y.length:=fun Y g' k'=>by cases k'<;>simp[ff]
         apply List.ext_getElem?;intro id
         have kq:(nL (ff (H++eR ks (dU ks kl H.length fun i=>listed.getD i false) 0) (H.length+bG ks i) k) q)[id]? =if q=some id/\id<H.length+(gn ks).length then some .dead else(ff (H++eR ks (dU ks kl H.length fun i=>listed.getD i false) 0) (H.length+bG ks i) k)[id]? :=by
           cases q with
           |none=>simp[nL]
           | some g0=>
             simp only[nL,List.getElem?_set,hlen1,List.length_append,fZ,Option.some.injEq];by_cases hg:g0=id
             . subst hg;by_cases hl:g0<H.length+(gn ks).length
               . simp[hl]
               . simp only[hl,if_true,if_false,and_false];rw[List.getElem?_eq_none (by rw[hlen1,List.length_append,fZ];omega)]
             . simp[hg]
         rw[kq];by_cases hlt:id<H.length
         . have q1:¬q=some id:=by
             rintro rfl
             obtain⟨_,hge,_⟩:=hC.kill hlv;omega
           rw[if_neg (fun h=>q1 h.1),List.getElem?_append_left hlt]
           cases k with
           |none=>rw[ff,List.getElem?_append_left hlt]
           |some o=>rw[ff,List.getElem?_set_ne (by omega),List.getElem?_append_left hlt]
         obtain⟨p,rfl⟩:∃p,id=H.length+p:=⟨id-H.length,by omega⟩;by_cases hpt:p<(gn ks).length
         case neg=>
           rw[if_neg (by omega),List.getElem?_eq_none (by rw[hlen1,List.length_append,fZ];omega),List.getElem?_eq_none (by rw[List.length_append,fZ];omega)]
         obtain⟨c,o,hk,rfl⟩:=hU ks p hpt
         have r1:(H++eR ks (dU ks kl H.length fun j=>(listed.setIfInBounds i true).getD j false) 0)[H.length+bG ks c]? =some (if dU ks kl H.length (fun j=>(listed.setIfInBounds i true).getD j false) c then o else .dead):=by
           rw[List.getElem?_append_right (by omega),Nat.add_sub_cancel_left,lX ks _ 0 c hk,Nat.zero_add]
         rw[r1]
         have hr:dU ks kl H.length (fun j=>(listed.setIfInBounds i true).getD j false) c=((decide (i=c)||listed.getD c false)&& !(fe kl H.length (fun j=>listed.getD j false) (bG ks c)||decide (q=some (H.length+bG ks c)))):=by
           unfold dU;rw[hsp];simp only[hL]
         rw[hr];by_cases hq1:q=some (H.length+bG ks c)
         . rw[if_pos ⟨hq1,by omega⟩];simp[hq1]
         . rw[if_neg (fun h=>hq1 h.1)];simp only[hq1,decide_false,Bool.or_false];by_cases hci:i=c
           . subst hci;rw[hkv]at hk;cases hk;rw[ff,List.getElem?_set_self (by rw[List.length_append,fZ];omega)]
             have:fe kl H.length (fun j=>listed.getD j false) (bG ks i)=false:=by
               cases hs2:fe kl H.length (fun j=>listed.getD j false) (bG ks i)with
               |false=>rfl
               | true=>
                 obtain⟨j,hj,hkj⟩:=cC.1 hs2;have:=hki j i _ hj hkj hkv;rw[hu]at this;cases this
             rw[this];simp only[decide_true,Bool.true_or,Bool.not_false,Bool.and_self,if_true]
           . have hne:H.length+bG ks i≠H.length+bG ks c∨k=none:=by
               cases k with
               |none=>exact .inr rfl
               |some o'=>exact .inl (fun e=>hci (qj hkv hk (by omega)))
             have:(ff (H++eR ks (dU ks kl H.length fun i=>listed.getD i false) 0) (H.length+bG ks i) k)[H.length+bG ks c]? =(H++eR ks (dU ks kl H.length fun i=>listed.getD i false) 0)[H.length+bG ks c]? :=by
               rcases hne with hne|rfl
               . cases k with
                 |none=>rfl
                 |some o'=>rw[ff,List.getElem?_set_ne hne]
               . rfl
             rw[this,hX1 c o hk];simp[dU,hci]
       rw[hheap]at g2
       have hdl':∀c o,ks[c]? =some (some o)->(listed.setIfInBounds i true).getD c false=false->V'.loc (H.length+bG ks c)=none:=by
         intro c o hk hb;rw[hL,Bool.or_eq_false_iff]at hb
         have hci:i≠c:=by simpa using hb.1
         have:=g5 (H.length+bG ks c) (by
           cases k with
           |none=>exact .inl rfl
           |some o'=>exact .inr (fun e=>hci (qj hkv hk (by omega))))
         rw[this];exact hdl c o hk hb.2
       have hki':∀j c o,(listed.setIfInBounds i true).getD j false=true->kl[j]? =some (some (H.length+bG ks c))->ks[c]? =some (some o)->(listed.setIfInBounds i true).getD c false=true:=by
         intro j c o hj hkj hk;rw[hL,Bool.or_eq_true]at hj ⊢;right
         rcases hj with hj|hj
         . simp at hj;subst hj;rw[hlv]at hkj;obtain⟨l,hl⟩:=g6 _ (Option.some.inj hkj)
           cases hb:listed.getD c false with
           |true=>rfl
           |false=>rw[hdl c o hk hb]at hl;cases hl
         . exact hki j c o hj hkj hk
       refine ih _ V' W' a' (by simpa using hs) ?_ ?_ (fun j hj=> ?_) (hrd.mono g1.le) g3 g2 hdl' hki' (fun V'' a'' W'' ex k1=>hQ V'' a'' W'' ex (g1.trans k1))
       . have:cnt ((listed.toList.take s).set i true)+1=cnt (listed.toList.take s):=uG _ i (by
           have hil:i<listed.size:=by omega
           rw[List.getElem?_take,if_pos his];simp[hil]at hu ⊢
           exact hu)
         rw[Array.toList_setIfInBounds,List.take_set];omega
       . intro j o' e ho' hj he hb;simp only[bS (show i<listed.size by omega)]at hj ⊢;rw[Bool.or_eq_true]at hj ⊢
         rcases hj with hj|hj
         . simp at hj;subst hj;rw[ho]at ho';cases ho';exact .inr (hr e he hb)
         . exact .inr (hcl j o' e ho' hj he hb)
       . rw[bS (by omega),hun j hj]
         simp;omega
theorem tA (hcb:fD P cb) {id:Nat} {pre tail:List ai} {fr:Fr} {tm':List AV} (hc:gH P ops true=some (.drawn pre tail)) (hrd:RdR V rd ro) (hF:FrR V fr a) (hW:WR P w0 V H W)
   {e':List av} (h0:iW cb H pre fr.tm []=some (tm',e')) (h:aU cb rd tail {fr with tm:=tm'} (H++e')=some r)
   (hQ:∀V' a' W' ex,bO w0 V V'->WR P w0 V' r.2.2 W'->FrR V' r.2.1 a'->ExR V' r.1 ex->Q ex a' W'):P.follows .mixedOrders=true/\wpAnyIn (Fk ro) 0 P .any ops Q ops.size (Array.replicate ops.size false) a {W with drawn:=W.drawn+1}:=by
 unfold gH at hc;split at hc
 . cases hc
 . rename_i os hos;simp only[Bool.not_true,Bool.false_eq_true,if_false]at hc
   have gen:∀(s:Nat) (fs:List Nat) (lx sx:List X),s<=ops.size->k7 ops os (kX ops.toList []) s fs=true->vR ops os s fs lx sx->P.follows .mixedOrders=true->pre=os.take s→
       (fs≠[]->ck (lx.map (·.ev tm')) (sx.map (·.ev tm'))=true)->aU cb rd (os.drop s) {fr with tm:=tm'} (H++e')=some r->P.follows .mixedOrders=true/\wpAnyIn (Fk ro) 0 P .any ops Q ops.size (Array.replicate ops.size false) a {W with drawn:=W.drawn+1}:=by
     rintro s fs lx sx hsn hd hX hm rfl hfv h
     have hD:=uS hd;obtain⟨ws,ks,kl,Es,h1,h1',h1'',h2,h20,h2',h3⟩:=oN _ _ _ _ _ h0;have hC:Can cb H (os.take s) fr.tm ws ks kl Es:=⟨h1,h1',h1'',h20,h3⟩
     have hsl:(os.take s).length=s:=by
       have h2:=(dY hos).1;simp only[Array.length_toList]at h2
       rw[List.length_take];omega
     rw[hsl]at h2';subst h2'
     have hz:∀j,(Array.replicate ops.size false).getD j false=false:=fun j=>by
       simp[Array.getElem?_replicate]
       split<;>rfl
     refine⟨hm,EZ hcb hos hD hX (hsn) hC h2 hfv h ops.size _ V _ a (by simp) ?_ ?_ (fun i _=>hz i) hrd ?_ ?_ ?_ ?_ hQ⟩
     . have:=Fu ((Array.replicate ops.size false).toList.take s);simp only[List.length_take,Array.length_toList,Array.size_replicate]at this;omega
     . intro j o e ho hj he hb;simp only[hz]at hj;cases hj
     . rw[nq _ _ _ _ hz];exact hF
     . rw[iy ks _ (fun _=>false) 0 (fun j sz _=>by simp only[dU,hz,Bool.false_and]),mQ];exact hW.drew.M4 _
     . intro c o _ _;exact hW.fresh _ (by omega)
     . intro j c o hj;rw[hz]at hj;cases hj
   have hfa:jo os<=ops.size:=by
     have h1:=nO os;have h2:=(dY hos).1;simp only[Array.length_toList]at h2;omega
   have no:∀s,vR ops os s [] [] []:=fun s=>⟨fun _ h=>by simp at h,fun _ h=>by simp at h,fun _ h=>by simp at h⟩
   split at hc
   . rename_i hchk;cases hc;simp only[Bool.and_eq_true]at hchk;exact gen _ [] [] [] (lB _ _) hchk.1.2 (no _) hchk.1.1 rfl (fun h=>absurd rfl h) h
   . split at hc
     . rename_i hchk;cases hc;simp only[Bool.and_eq_true]at hchk;exact gen _ [] [] [] hfa hchk.1.2 (no _) hchk.1.1 rfl (fun h=>absurd rfl h) h
     . split at hc
       . rename_i hchk;cases hc;simp only[Bool.and_eq_true]at hchk;rw[aU]at h;rw[if_pos (show bC _ none=true from rfl)]at h;simp only[aT]at h;split at h
         . rename_i v hv;split at hv
           . rename_i hfv;cases hv;exact gen _ _ _ _ hfa hchk.1.1.2 (nN (.inl rfl) hchk.2) hchk.1.1.1 rfl (fun _=>hfv) h
           . cases hv
         . simp[bI]at h
       . split at hc
         . rename_i hchk;cases hc;simp only[Bool.and_eq_true]at hchk;rw[aU]at h;rw[if_pos (show bC _ none=true from rfl)]at h;simp only[aT]at h;split at h
           . rename_i v hv;split at hv
             . rename_i hfv;cases hv;exact gen _ _ _ _ hfa hchk.1.1.2 (nN (.inr rfl) hchk.2) hchk.1.1.1 rfl (fun _=>hfv) h
             . cases hv
           . simp[bI]at h
         . cases hc
end
end Go.Am
