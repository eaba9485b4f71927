/- REGIONS THAT KEEP THEIR ORDER: the interpreter's run of one stands for the model's. No condition. -/
import Derived.Test.YtephfpdnhdpmkaaGreatDoorAmAct3
open Int (reduceEq)
open Nat (reduceEqDiff reduceAdd reduceMul reduceLT reduceLeDiff)
set_option linter.all false
namespace Go.Am
open Go Go.RowKit
set_option linter.unusedSectionVars false
variable [dy]
variable {P:Program} {w0:World} {V:View} {H:ab} {W:World} {tm:List AV} {a:Act}
def Fk (ro:Option Nat):Fence:={fn:=fun _=>True,depth:=none,alive:=false,round:=ro}
theorem IE:Fk none=Fence.wide:=rfl
def DfL (V:View):List ADf->List Deferred->Prop
 |[],[]=>True
 |d::ds,e::es=>DfR V d e/\DfL V ds es
 |_,_=>False
theorem DfL.mono {V V':View} (hV:V.Le V'):∀{ds:List ADf} {es:List Deferred},DfL V ds es->DfL V' ds es
 |[],[],_=>trivial
 |_::_,_::_,h=>⟨h.1.mono hV,DfL.mono hV h.2⟩
 |[],_::_,h=>h.elim
 |_::_,[],h=>h.elim
structure FrR (V:View) (fr:Fr) (a:Act):Prop where
 tm:aj V fr.tm a.tmps.toList
 df:DfL V fr.df a.defers
theorem FrR.mono {V V':View} (hV:V.Le V') {fr:Fr} {a:Act} (h:FrR V fr a):FrR V' fr a:=⟨h.tm.mono hV,h.df.mono hV⟩
def ChR (V:View):List (AV×Bool)->List PanicEntry->Prop
 |[],[]=>True
 |v::r,p::ps=>Rep V v.1 p.v/\p.recovered=v.2/\p.goexit=false/\ChR V r ps
 |_,_=>False
theorem ChR.mono {V V':View} (hV:V.Le V'):∀{c:List (AV×Bool)} {ch:List PanicEntry},ChR V c ch->ChR V' c ch
 |[],[],_=>trivial
 |_::_,_::_,h=>⟨h.1.mono hV,h.2.1,h.2.2.1,ChR.mono hV h.2.2.2⟩
 |[],_::_,h=>h.elim
 |_::_,[],h=>h.elim
def ExR (V:View):Ex->Exit->Prop
 | .normal,.normal=>True
 | .exit i,.exit j=>i=j
 | .goto i,.goto j=>i=j
 | .ret,.ret=>True
 | .panic c,.panic ch=>ChR V c ch
 |_,_=>False
def yK (V:View):Out->Ending->Prop
 | .ret v,.returned u=>Rep V v u
 | .pan c,.panicked ch=>ChR V c ch
 |_,_=>False
def fL (P:Program) (w0:World) (V:View) (H':ab) (o:Out) (e:Ending) (W':World):Prop:=∃V',bO w0 V V'/\WR P w0 V' H' W'/\yK V' o e
def fG (V:View) (W:World) (r:PR) (e:Ending) (W':World):Prop:=
 ∃ I:Addr->Option Value,Below W.heap.size W W'/\(∀p v,I p=some v->W'.cell? p=some v/\v.oneCell'=true)/\(∀p v,V.imm p=some v->I p=some v)∧
   (∀p v,I p=some v->V.imm p=some v∨W.heap.size<=p.block)∧
   match r,e with
   | .plain v,.returned u=>Rep ⟨I,V.loc⟩ v u
   | .fresh sz n cs,.returned u=>∃e' xs b cap,u= .slice (some ⟨b,0,none⟩) n cap/\W'.ownsRow W.heap.size e' sz u n xs/\(∀off,n*sz<=off->I ⟨b,off,none⟩=none)∧
       Rep ⟨I,V.loc⟩ (.sl sz n cs .ro) u/\∀L:Nat->Option Loc,∀g,(∀i l,V.loc i=some l->L i=some l)->L g=some (.own u)->Rep ⟨I,L⟩ (.sl sz n cs (.own g)) u
   | .ir es,.returned u=>∃b ents clk,u= .map (some b)/\W.heap.size<=b/\W'.heap[b]? =some (.map ents clk)/\Stm ents clk/\∀L:Nat->Option Loc,aj ⟨I,L⟩ (es.map (·.1)) (ents.toList.map (·.key))/\aj ⟨I,L⟩ (es.map (·.2)) (ents.toList.map (·.val))
   | .pan c,.panicked ch=>ChR ⟨I,V.loc⟩ c ch
   | .iw v,.returned u=>Rep ⟨fun p=>if W.heap.size<=p.block then I p else none,V.loc⟩ v u
   |_,_=>False
def RdR (V:View):Option Nat->Option Nat->Prop
 |none,none=>True
 |some id,some l=>V.loc id=some (.blk l)
 |_,_=>False
theorem RdR.mono {V V':View} (hV:V.Le V') {rd ro:Option Nat} (h:RdR V rd ro):RdR V' rd ro:=by
 cases rd<;>cases ro<;>first|exact h|exact hV.loc _ _ h
def iP (F:Fence) (P:Program) (xs:List Item) (Q:Exit->Act->World->Prop) (a:Act) (w:World):Prop:=
 ∀ (b:Frame) (k:List Item) (cs:List Frame),b.roundOf=F.round->F.fn b.fn->F.room (cs.length+1+0)→
   ∃e a' w',Q e a' w'/\ArrivesIn (Machine.fenced P F) P (lone (b.atR a (xs++k)) cs w) b k cs e a' w'
def nt (P:Program) (w0:World) (V:View) (r:Ex×Fr×ab) (Q:Exit->Act->World->Prop):Prop:=
 ∀V' a' W' ex,bO w0 V V'->WR P w0 V' r.2.2 W'->FrR V' r.2.1 a'->ExR V' r.1 ex->Q ex a' W'
theorem nt.mono {V V':View} {r:Ex×Fr×ab} {Q:Exit->Act->World->Prop} (h:nt P w0 V r Q) (g:bO w0 V V'):nt P w0 V' r Q:=fun V'' a' W' ex k1=>h V'' a' W' ex (g.trans k1)
def yj (P:Program) (rd:Option Nat) (c:Code) (run:Fr->ab->Option (Ex×Fr×ab)):Prop:=
 ∀(w0:World) (ro:Option Nat) (V:View) (fr:Fr) (H:ab) (a:Act) (W:World) (r:Ex×Fr×ab) (Q:Exit->Act->World->Prop),run fr H=some r->RdR V rd ro->FrR V fr a->WR P w0 V H W->nt P w0 V r Q->c.wpIn (Fk ro) 0 P Q a W
def oz (P:Program) (rd:Option Nat) (xs:List Item) (run:Fr->ab->Option (Ex×Fr×ab)):Prop:=
 ∀(w0:World) (ro:Option Nat) (V:View) (fr:Fr) (H:ab) (a:Act) (W:World) (r:Ex×Fr×ab) (Q:Exit->Act->World->Prop),run fr H=some r->RdR V rd ro->FrR V fr a->WR P w0 V H W->nt P w0 V r Q->iP (Fk ro) P xs Q a W
structure fD (P:Program) (cb:CB):Prop where
 pc:∀f args r,cb.pc f args=some r->∀(V:View) (W:World) (us:Array Value),(∀p v,V.imm p=some v->W.cell? p=some v/\v.oneCell'=true)->ka W->aj V args us.toList→
   (callFunc f us).run P W= .ok (.enter f us) W/\CallsIn (Fk none) 0 P f us W (fG V W r)
 ic:∀f args H o H',cb.ic f args H=some (o,H')->∀(w0:World) (V:View) (W:World) (us:Array Value),WR P w0 V H W->aj V args us.toList→
   (callFunc f us).run P W= .ok (.enter f us) W/\CallsIn (Fk none) 0 P f us W (fL P w0 V H' o)
 yl:∀id args H o H',cb.yl id args H=some (o,H')->∀(w0:World) (V:View) (W:World) (b:Nat) (us:Array Value),WR P w0 V H W->V.loc id=some (.blk b)->aj V args us.toList→
   ∃f tmps assign body,(Instr.yield b us).run P W= .ok (.round b f tmps assign body) W/\RoundIn (Fk none) 0 P b f tmps assign body W (fL P w0 V H' o)
 loop:∀rd c ac,bq P c=some ac->oz P rd [.code c,.inLoop c] (cb.run rd (.loop ac))
 scope:∀rd c w x ax,bq P c=some w->bq P x=some ax->oz P rd [.code x,.inScope c] (cb.run rd (.b7 w ax))
theorem cZ {W W':World} (h:Below W.heap.size W W'):W.grownBy W' none:=⟨h.os,h.tape,h.output,h.size,fun k hk _=>h.block k hk⟩
theorem ez {x:AV} {v:Value} (h:Rep V x v) (hs:x.iZ=true) (V':View):Rep V' x v:=by
 cases h<;>first|(cases hs;done)|constructor
theorem B9 {x:AV} {v:Value} (h:Rep V x v) (hs:x.z2=true) (V':View):Rep V' x v:=by
 cases h with
 | agg hl h=>
   simp only[AV.z2,List.all_eq_true]at hs;exact .agg hl (fun i x v h1 h2=>ez (h i x v h1 h2) (hs x (List.mem_of_getElem? h1)) V')
 |bool b=>exact .bool b
 |int k n=>exact .int k n
 |str s=>exact .str s
 |_=>simp[AV.z2]at hs
theorem xJ {x:AV} {v:Value} (h:Rep V x v) (hs:x.bare=true) (V':View):Rep V' x v:=by
 cases h with
 | tup hl h=>
   simp only[AV.bare,List.all_eq_true]at hs;exact .tup hl (fun i x v h1 h2=>B9 (h i x v h1 h2) (hs x (List.mem_of_getElem? h1)) V')
 | agg hl h=>
   simp only[AV.bare,List.all_eq_true]at hs;exact .agg hl (fun i x v h1 h2=>ez (h i x v h1 h2) (hs x (List.mem_of_getElem? h1)) V')
 |iface h=>exact .iface (ez h hs V')
 |bool b=>exact .bool b
 |int k n=>exact .int k n
 |str s=>exact .str s
 |cL=>exact .cL
 |cO=>exact .cO
 |fI=>exact .fI
 |fj=>exact .fj
 |slnil sz=>exact .slnil sz
 | @sl _ n _ _ _ cs _ f hn hc hnc hi h ht=>
   exfalso
   rcases ht with rfl|⟨rfl,_⟩<;>cases n<;>cases cs<;>simp[AV.bare]at hs
 | @slo _ n _ _ _ cs f hn hnc hl hi h=>exfalso;cases n<;>cases cs<;>simp[AV.bare]at hs
 |_=>simp[AV.bare]at hs
theorem zR {V':View}:∀{c:List (AV×Bool)} {ch:List PanicEntry},ChR V c ch->(c.all (·.1.bare))=true->ChR V' c ch
 |[],[],_,_=>trivial
 | _::_,_::_,h,hb=>by
   simp only[List.all_cons,Bool.and_eq_true]at hb;exact⟨xJ h.1 hb.1 V',h.2.1,h.2.2.1,zR h.2.2.2 hb.2⟩
 |[],_::_,h,_=>h.elim
 |_::_,[],h,_=>h.elim
open Classical in
noncomputable def eP (V:View) (H:ab) (W:World):View:=
 ⟨fun p=>if(∃v,V.imm p=some v)then V.imm p else if(∃(id:Nat) (cs:List AV),H[id]? =some (.cells cs)/\aK V id=some p.block/\p.off<cs.length/\p.spot=none)then W.cell? p else none,V.loc⟩
open Classical in
theorem ig (V:View) (H:ab) (W:World):V.Le (eP V H W):=⟨fun p v hp=>by
 show(if(∃v,V.imm p=some v)then V.imm p else _)=some v
 rw[if_pos ⟨v,hp⟩]
 exact hp,fun _ _ h=>h⟩
open Classical in
theorem iq (hW:WR P w0 V H W):∀p v,(eP V H W).imm p=some v->W.cell? p=some v/\v.oneCell'=true:=by
 intro p v hp;change (if(∃v,V.imm p=some v)then V.imm p else if(∃(id:Nat) (cs:List AV),H[id]? =some (.cells cs)/\aK V id=some p.block/\p.off<cs.length/\p.spot=none)then W.cell? p else none)=some v at hp;split at hp
 . exact hW.imm p v hp
 . split at hp
   . rename_i hex;obtain⟨id,cs,h1,h2,h3,h4⟩:=hex;refine⟨hp, ?_⟩;obtain⟨b,vs,t,hb,_,hh,hr,hone,_⟩:=hW.obj id _ h1;rw[h2]at hb;cases hb;obtain⟨blk,off,spot⟩:=p;simp only at h3 h4;subst h4
     have h5:vs[off]? =some v:=by simpa[World.cell?,hh] using hp
     refine hone v (List.mem_of_getElem? (i:=off) ?_);rw[List.getElem?_take,if_pos h3,Array.getElem?_toList,h5]
   . cases hp
open Classical in
theorem gF (hW:WR P w0 V H W) {id b:Nat} {cs:List AV} (h1:H[id]? =some (.cells cs)) (h2:aK V id=some b):∃f:Nat->Value,(∀i,i<cs.length->(eP V H W).imm ⟨b,i,none⟩=some (f i))/\∀(i:Nat) (x:AV),cs[i]? =some x->Rep V x (f i):=by
 obtain⟨b',vs,t,hb,_,hh,hr,hone,himm,_⟩:=hW.obj id _ h1;rw[h2]at hb;cases hb
 have hl:cs.length<=vs.size:=by have:=hr.1;simp at this;omega
 refine⟨fun i=>vs[i]!,fun i hi=> ?_,fun i x hx=> ?_⟩
 . show(if(∃v,V.imm ⟨b,i,none⟩=some v)then V.imm ⟨b,i,none⟩else if(∃(id:Nat) (cs:List AV),H[id]? =some (.cells cs)/\aK V id=some b/\i<cs.length/\(none:Option Nat)=none)then W.cell? ⟨b,i,none⟩else none)=_
   rw[if_neg (by rintro ⟨v,hv⟩;rw[himm]at hv;cases hv),if_pos ⟨id,cs,h1,h2,hi,rfl⟩]
   have hi':i<vs.size:=by omega
   simp[World.cell?,hh,hi']
 . have hi:i<cs.length:=(List.getElem?_eq_some_iff.1 hx).1
   have hi':i<vs.size:=by omega
   refine hr.2 i x _ hx ?_;rw[List.getElem?_take,if_pos hi,Array.getElem?_toList];simp[hi']
theorem fC {V:View} {x:AV} {v:Value} (h:Rep V x v):Rep V (au x) v:=by
 have h0:=h
 cases h with
 | slo f hn hnc hl hi h=>
   refine .sl (o:=0) f (Nat.le_of_eq hn.symm) ?_ hnc (fun i hi'=>by rw[Nat.zero_add];exact hi i hi') h (.inl rfl);rw[hn];exact Nat.mul_le_mul_right _ hnc
 | sl f hn hc hnc hi h ht=>
   rcases ht with rfl|⟨rfl,_,_⟩<;>exact h0
 |slnil sz=>exact h0
 |slx sz a=>exact h0
 |_=>exact h0
theorem gJ (hW:WR P w0 V H W) {H0:ab} (h0:∀(id:Nat) (x:av),H0[id]? =some x->H[id]? =some x):∀(k:Nat) (x:AV) (v:Value),Rep V x v->Rep (eP V H W) (bw H0 k x) v
 |0,x,v,h=>h.mono (ig V H W)
 | k+1,x,v,h=>by
   have hm:=h.mono (ig V H W)
   cases h with
   | msl hl hnc=>
     rename_i sz id off n b cap;rw[bw];split
     . rename_i cs hcs;split
       . rename_i hle;obtain⟨f,k1,k2⟩:=gF hW (h0 _ _ hcs) hl;refine .sl (fun i=>f (off+i)) (by simp;omega) (by simp;exact Nat.le_trans (Nat.min_le_left _ _) (Nat.mul_le_mul_right _ hnc)) hnc (fun i hi=> ?_) (fun i x hx=> ?_) (.inl rfl)
         . simp at hi;exact k1 (off+i) (by omega)
         . rw[List.getElem?_map]at hx;obtain⟨y,hy,rfl⟩:=Option.map_eq_some_iff.1 hx;rw[List.getElem?_take]at hy;split at hy
           . rw[List.getElem?_drop]at hy;exact gJ hW h0 k y _ (k2 _ y hy)
           . cases hy
       . exact hm
     . exact hm
   | rsl hl hnc=>
     rename_i sz id n b cap;rw[bw];split
     . rename_i cs hcs;split
       . rename_i hle;obtain⟨f,k1,k2⟩:=gF hW (h0 _ _ hcs) (b:=b) (by simp[aK,hl]);refine .sl (o:=0) f (by simp;omega) (by simp;exact Nat.le_trans (Nat.min_le_left _ _) (Nat.mul_le_mul_right _ hnc)) hnc (fun i hi=> ?_) (fun i x hx=> ?_) (.inl rfl)
         . simp at hi;rw[Nat.zero_add];exact k1 i (by omega)
         . rw[List.getElem?_map]at hx;obtain⟨y,hy,rfl⟩:=Option.map_eq_some_iff.1 hx;rw[List.getElem?_take]at hy;split at hy
           . exact gJ hW h0 k y _ (k2 _ y hy)
           . cases hy
       . exact hm
     . exact hm
   | ptr hl=>
     rename_i id off b;rw[bw];split
     . rename_i cs hcs;obtain⟨f,k1,k2⟩:=gF hW (h0 _ _ hcs) hl;refine .bU (fun i=>f (off+i)) (fun i hi=> ?_) (fun i x hx=> ?_)
       . simp at hi;exact k1 (off+i) (by omega)
       . rw[List.getElem?_map]at hx;obtain⟨y',hy',rfl⟩:=Option.map_eq_some_iff.1 hx;rw[List.getElem?_map]at hy';obtain⟨y,hy,rfl⟩:=Option.map_eq_some_iff.1 hy';rw[List.getElem?_drop]at hy;exact fC (gJ hW h0 k y _ (k2 _ y hy))
     . exact hm
   | agg hl h=>
     rw[bw];refine .agg (by simpa using hl) (fun i x v h1 h2=> ?_);rw[List.getElem?_map]at h1;obtain⟨y,hy,rfl⟩:=Option.map_eq_some_iff.1 h1;exact gJ hW h0 k y _ (h i y v hy h2)
   |_=>exact hm
open Classical in
theorem ix {cb:CB} (hcb:fD P cb) {f:FuncId} {args:List AV} {r:PR} {H0:ab} {us:Array Value} (hW:WR P w0 V H W) (h0:∀(id:Nat) (x:av),H0[id]? =some x->H[id]? =some x) (hr:aj V args us.toList) (h:pcx cb f args H0=some r):
   (callFunc f us).run P W= .ok (.enter f us) W/\CallsIn (Fk none) 0 P f us W (fG V W r):=by
 unfold pcx at h;split at h
 . have hr':aj (eP V H W) (args.map (bw H0 4)) us.toList:=⟨by simpa using hr.1,fun i x v h1 h2=>by
     rw[List.getElem?_map]at h1;obtain⟨y,hy,rfl⟩:=Option.map_eq_some_iff.1 h1
     exact gJ hW h0 4 y v (hr.2 i y v hy h2)⟩
   have conv0:∀(q q':PR) (e:Ending) (W':World),fG (eP V H W) W q e W'->((q'=q/\(match q with
       | .plain v=>v.bare
       | .fresh _ _ cs=>cs.all (·.iZ)
       | .ir _=>false
       | .pan c=>c.all (·.1.bare)
       | .iw _=>false)=true)∨∃v,q= .iw v/\q'= .plain v)->fG V W q' e W':=by
     rintro q q' e W' ⟨I,k1,k2,k3,k4,k5⟩ hb
     let J:Addr->Option Value:=fun p=>if(∃v,V.imm p=some v)then V.imm p else if W.heap.size<=p.block then I p else none
     have hJ:∀p v,J p=some v->I p=some v:=by
       intro p v hp;change (if(∃v,V.imm p=some v)then V.imm p else if W.heap.size<=p.block then I p else none)=some v at hp;split at hp
       . exact k3 p v ((ig V H W).imm p v hp)
       . split at hp
         . exact hp
         . cases hp
     have hnew:∀p v,W.heap.size<=p.block->I p=some v->J p=some v:=by
       intro p v hge hp;show(if(∃v,V.imm p=some v)then V.imm p else if W.heap.size<=p.block then I p else none)=some v
       split
       . rename_i hex;obtain⟨u,hu⟩:=hex;have:=hW.cV p u hu;omega
       . first|exact hp|(rw[if_pos hge];exact hp)
     refine⟨J,k1,fun p v hp=>k2 p v (hJ p v hp),fun p v hp=> ?_,fun p v hp=> ?_, ?_⟩
     . show(if(∃v,V.imm p=some v)then V.imm p else _)=some v
       rw[if_pos ⟨v,hp⟩];exact hp
     . change (if(∃v,V.imm p=some v)then V.imm p else if W.heap.size<=p.block then I p else none)=some v at hp;split at hp
       . exact .inl hp
       . split at hp
         . rename_i hge;exact .inr hge
         . cases hp
     . rcases hb with⟨rfl,hb⟩|⟨v,rfl,rfl⟩
       rotate_left
       . cases e with
         |panicked _=>exact k5.elim
         |outgrown=>exact k5.elim
         | returned u=>
           show Rep ⟨J,V.loc⟩ v u
           refine Rep.mono (V':=⟨J,V.loc⟩) ⟨fun p v hp=> ?_,fun _ _ h=>h⟩ (V:=⟨fun p=>if W.heap.size<=p.block then I p else none,V.loc⟩) k5;dsimp only at hp;split at hp
           . rename_i hge;exact hnew p v hge hp
           . cases hp
       cases q' with
       |iw v=>cases hb
       |plain v=>cases e<;>first|exact xJ k5 hb _|exact k5.elim
       |pan c=>cases e<;>first|exact zR k5 hb|exact k5.elim
       |ir es=>cases hb
       | fresh sz n cs=>
         cases e with
         |panicked _=>exact k5.elim
         |outgrown=>exact k5.elim
         | returned u=>
           obtain⟨e',xs,b,cap,rfl,hown,hsp,hro,_⟩:=k5;have hge:=(hown.lt b rfl).1;simp only[List.all_eq_true]at hb
           have hro':∃f':Nat->Value,n*sz<=cs.length/\cs.length<=cap*sz/\n<=cap/\(∀i,i<cs.length->I ⟨b,0+i,none⟩=some (f' i))/\∀(i:Nat) (x:AV),cs[i]? =some x->∀V'':View,Rep V'' x (f' i):=by
             cases hro with
             |slx _ _=>exact⟨fun _=>default,by simp,by simp,Nat.le_refl _,fun i h=>by simp at h,fun i x h=>by simp at h⟩
             |sl f' hn hc hnc hii hh _=>exact⟨f',hn,hc,hnc,hii,fun i x hx V''=>ez (hh i x hx) (hb x (List.mem_of_getElem? hx)) V''⟩
           obtain⟨f',hn,hc,hnc,hii,hh⟩:=hro'
           have hlen:cs.length=n*sz:=by
             apply Nat.le_antisymm _ hn;apply Nat.le_of_not_lt;intro hlt;have h1:=hii (n*sz) hlt;rw[Nat.zero_add,hsp (n*sz) (Nat.le_refl _)]at h1;cases h1
           refine⟨e',xs,b,cap,rfl,hown,fun off hoff=> ?_, ?_,fun L g _ hL=> ?_⟩
           . cases hp:J ⟨b,off,none⟩with
             |none=>rfl
             |some v=>have:=hJ _ _ hp;rw[hsp off hoff]at this;cases this
           . exact .sl f' hn hc hnc (fun i hi=>hnew _ _ hge (hii i hi)) (fun i x hx=>hh i x hx _) (.inl rfl)
           . exact .slo f' hlen hnc hL (fun i hi=>by have:=hnew _ _ hge (hii i hi);rwa[Nat.zero_add]at this) (fun i x hx=>hh i x hx _)
   simp only[kS]at h;split at h
   . rename_i v hp;split at h
     . rename_i hb;cases h;obtain⟨h1,h2⟩:=hcb.pc f _ _ hp (eP V H W) W us (iq hW) hW.glb hr';exact⟨h1,h2.mono fun e W' hpp=>conv0 _ _ e W' hpp (.inl ⟨rfl,hb⟩)⟩
     . cases h
   . rename_i sz n cs hp;split at h
     . rename_i hb;cases h;obtain⟨h1,h2⟩:=hcb.pc f _ _ hp (eP V H W) W us (iq hW) hW.glb hr';exact⟨h1,h2.mono fun e W' hpp=>conv0 _ _ e W' hpp (.inl ⟨rfl,hb⟩)⟩
     . cases h
   . cases h
   . rename_i c hp;split at h
     . rename_i hb;cases h;obtain⟨h1,h2⟩:=hcb.pc f _ _ hp (eP V H W) W us (iq hW) hW.glb hr';exact⟨h1,h2.mono fun e W' hpp=>conv0 _ _ e W' hpp (.inl ⟨rfl,hb⟩)⟩
     . cases h
   . rename_i v hp;cases h;obtain⟨h1,h2⟩:=hcb.pc f _ _ hp (eP V H W) W us (iq hW) hW.glb hr';exact⟨h1,h2.mono fun e W' hpp=>conv0 _ _ e W' hpp (.inr ⟨_,rfl,rfl⟩)⟩
   . cases h
 . exact hcb.pc f args r h V W us hW.imm hW.glb hr
theorem jn {cb:CB} (hcb:fD P cb) {f:FuncId} {args:List AV} {o:Out} {H':ab} {us:Array Value} (hW:WR P w0 V H W) (hr:aj V args us.toList) (h:dL cb f args H=some (o,H')):
   (callFunc f us).run P W= .ok (.enter f us) W/\CallsIn (Fk none) 0 P f us W (fL P w0 V H' o):=by
 have plain:∀{I:Addr->Option Value} {W':World},Below W.heap.size W W'->(∀p v,I p=some v->W'.cell? p=some v/\v.oneCell'=true)->(∀p v,V.imm p=some v->I p=some v)→
     (∀p v,I p=some v->V.imm p=some v∨W.heap.size<=p.block)->bO w0 V ⟨I,V.loc⟩/\WR P w0 ⟨I,V.loc⟩ H W':=by
   intro I W' h1 h2 h3 h4;have hs:Stp V W ⟨I,V.loc⟩ W' none:=⟨⟨h3,fun _ _ h=>h⟩,cZ h1,fun p v hp=>(h4 p v hp).elim .inl (fun h=> .inr (.inl h))⟩;exact⟨hs.grow hW.size (by simp),hW.step hs h2 hW.fresh⟩
 simp only[dL]at h;split at h
 . rename_i v hp;cases h;obtain⟨h1,h2⟩:=ix hcb hW (fun _ _ h=>h) hr hp;refine⟨h1,h2.mono ?_⟩
   rintro e W' ⟨I,k1,k2,k3,k4,k5⟩
   obtain⟨g1,g2⟩:=plain k1 k2 k3 k4
   cases e with
   |returned u=>exact⟨_,g1,g2,k5⟩
   |panicked _=>exact k5.elim
   |outgrown=>exact k5.elim
 . rename_i sz n cs hp;cases h;obtain⟨h1,h2⟩:=ix hcb hW (fun _ _ h=>h) hr hp;refine⟨h1,h2.mono ?_⟩
   rintro e W' ⟨I,k1,k2,k3,k4,k5⟩
   cases e with
   |panicked _=>exact k5.elim
   |outgrown=>exact k5.elim
   | returned u=>
     obtain⟨e',xs,b,cap,rfl,hown,hsp,_,hrep⟩:=k5
     let V':View:=⟨I,fun i=>if i=H.length then some (.own (.slice (some ⟨b,0,none⟩) n cap))else V.loc i⟩
     have hloc:∀i l,V.loc i=some l->V'.loc i=some l:=by
       intro i l hl
       have:i≠H.length:=fun e=>by rw[e,hW.fresh _ (Nat.le_refl _)]at hl;cases hl
       show(if i=H.length then _ else V.loc i)=some l
       rw[if_neg this];exact hl
     have hself:V'.loc H.length=some (.own (.slice (some ⟨b,0,none⟩) n cap)):=by simp[V']
     have hs:Stp V W V' W' none:=⟨⟨k3,hloc⟩,cZ k1,fun p v hp=>(k4 p v hp).elim .inl (fun h=> .inr (.inl h))⟩;have hbb:=hown.lt b rfl
     have hown':W'.ownsRow w0.heap.size e' sz (.slice (some ⟨b,0,none⟩) n cap) n xs:=by
       refine⟨hown.1, ?_⟩
       rcases hown.2 with h|⟨g,cap',cur,h1,h2,h3⟩
       . exact .inl h
       . exact .inr ⟨g,cap',cur,h1,Nat.le_trans hW.size h2,h3⟩
     refine⟨V',hs.grow hW.size (by simp),hW.push hs k2 (fun id hid=> ?_) ⟨_,e',n,xs,b,hself,hown',rfl,hsp⟩ (fun c hc=> ?_),hrep _ _ hloc hself⟩
     . show(if id=H.length then _ else V.loc id)=none
       rw[if_neg (by omega)];exact hW.fresh id (by omega)
     . simp only[aK,hself,Value.ownBlock,Option.some.injEq]at hc;omega
 . rename_i es hp;cases h;obtain⟨h1,h2⟩:=ix hcb hW (fun _ _ h=>h) hr hp;refine⟨h1,h2.mono ?_⟩
   rintro e W' ⟨I,k1,k2,k3,k4,k5⟩
   cases e with
   |panicked _=>exact k5.elim
   |outgrown=>exact k5.elim
   | returned u=>
     obtain⟨b,ents,clk,rfl,hge,hh,hst,hrep⟩:=k5
     let V':View:=⟨I,fun i=>if i=H.length then some (.blk b)else V.loc i⟩
     have hloc:∀i l,V.loc i=some l->V'.loc i=some l:=by
       intro i l hl
       have:i≠H.length:=fun e=>by rw[e,hW.fresh _ (Nat.le_refl _)]at hl;cases hl
       show(if i=H.length then _ else V.loc i)=some l
       rw[if_neg this];exact hl
     have hself:V'.loc H.length=some (.blk b):=by simp[V']
     have hs:Stp V W V' W' none:=⟨⟨k3,hloc⟩,cZ k1,fun p v hp=>(k4 p v hp).elim .inl (fun h=> .inr (.inl h))⟩;refine⟨V',hs.grow hW.size (by simp),hW.push hs k2 (fun id hid=> ?_) ⟨b,ents,clk,hself,Nat.le_trans hW.size hge,hh,(hrep _).1,(hrep _).2,hst⟩ (fun c hc=> ?_),.mp hself⟩
     . show(if id=H.length then _ else V.loc id)=none
       rw[if_neg (by omega)];exact hW.fresh id (by omega)
     . simp only[aK,hself,Option.some.injEq]at hc;omega
 . rename_i c hp;cases h;obtain⟨h1,h2⟩:=ix hcb hW (fun _ _ h=>h) hr hp;refine⟨h1,h2.mono ?_⟩
   rintro e W' ⟨I,k1,k2,k3,k4,k5⟩
   obtain⟨g1,g2⟩:=plain k1 k2 k3 k4
   cases e with
   |panicked _=>exact⟨_,g1,g2,k5⟩
   |returned u=>exact k5.elim
   |outgrown=>exact k5.elim
 . cases h
 . split at h
   . cases h
   . exact hcb.ic f args H o H' h w0 V W us hW hr
theorem ta {cb:CB} (hcb:fD P cb) {rw:Bool} {f:FuncId} {args:List AV} {o:Out} {H':ab} {us:Array Value} (hW:WR P w0 V H W) (hr:aj V args us.toList) (h:eE cb rw f args H=some (o,H')):
   (callFunc f us).run P W= .ok (.enter f us) W/\CallsIn (Fk none) 0 P f us W (fL P w0 V H' o):=by
 simp only[eE]at h;split at h
 . rename_i v hp;exact jn hcb hW hr (by simp only[dL,hp];exact h)
 . rename_i sz n cs hp;split at h
   . rename_i hcnd;simp only[Bool.and_eq_true,List.all_eq_true,beq_iff_eq]at hcnd;obtain⟨hsc,hlen⟩:=hcnd;cases h;obtain⟨h1,h2⟩:=ix hcb hW (fun _ _ h=>h) hr hp;refine⟨h1,h2.mono ?_⟩
     rintro e W' ⟨I,k1,k2,k3,k4,k5⟩
     cases e with
     |panicked _=>exact k5.elim
     |outgrown=>exact k5.elim
     | returned u=>
       obtain⟨e',xs,b,cap,rfl,hown,hsp,hro,_⟩:=k5;have hbb:=hown.lt b rfl
       rcases hown.2 with⟨hnil,_⟩|⟨b',cap',cur,hv,hge,hcur,hnc,hcm,hcs,htk⟩
       . cases hnil
       cases hv
       let V':View:=⟨fun p=>if p.block=b then none else I p,fun i=>if i=H.length then some (if rw then .row b sz cap else .blk b)else V.loc i⟩
       have hold:∀p v,V.imm p=some v->p.block≠b:=fun p v hp e=>by have:=hW.cV p v hp;omega
       have hloc:∀i l,V.loc i=some l->V'.loc i=some l:=by
         intro i l hl
         have:i≠H.length:=fun e=>by rw[e,hW.fresh _ (Nat.le_refl _)]at hl;cases hl
         show(if i=H.length then _ else V.loc i)=some l
         rw[if_neg this];exact hl
       have hself0:V'.loc H.length=some (if rw then .row b sz cap else .blk b):=by simp[V']
       have hself:aK V' H.length=some b:=by unfold aK;rw[hself0];cases rw<;>rfl
       have hlast:Rep V' (if rw then .rsl sz H.length n else .msl sz H.length 0 n) (.slice (some ⟨b,0,none⟩) n cap):=by
         cases rw with
         |true=>exact .rsl hself0 hnc
         |false=>exact .msl hself hnc
       have hV'I:∀p v,V'.imm p=some v->I p=some v:=by
         intro p v hp;change (if p.block=b then none else I p)=some v at hp;split at hp
         . cases hp
         . exact hp
       have hs:Stp V W V' W' none:=⟨⟨fun p v hp=>by
           show(if p.block=b then none else I p)=some v
           rw[if_neg (hold p v hp)]
           exact k3 p v hp,hloc⟩,cZ k1,fun p v hp=>(k4 p v (hV'I p v hp)).elim .inl (fun h=> .inr (.inl h))⟩
       have hrl:aj V' cs (cur.toList.take cs.length):=by
         have hcl:cs.length<=cur.size:=by rw[hcs,hlen];exact Nat.mul_le_mul_right _ hnc
         refine⟨by simp;omega,fun i x v hx hv=> ?_⟩;have hi:i<cs.length:=(List.getElem?_eq_some_iff.1 hx).1;rw[List.getElem?_take,if_pos hi]at hv
         cases hro with
         |slx _ _=>simp at hi
         | sl f _ _ _ hii hh _=>
           have h3:=(k2 _ _ (hii i hi)).1;rw[Nat.zero_add]at h3
           have h4:cur[i]? =some (f i):=by simpa[World.cell?,hcur] using h3
           rw[Array.getElem?_toList,h4]at hv;cases hv;exact ez (hh i x hx) (hsc x (List.mem_of_getElem? hx)) V'
       have hone:aA cs=true:=(ba cs).2 (fun x hx=>by have:=hsc x hx;cases x<;>first|rfl|cases this);refine⟨V',hs.grow hW.size (by simp),hW.push hs (fun p v hp=>k2 p v (hV'I p v hp)) (fun id hid=> ?_) ⟨b,cur,e',hself,Nat.le_trans hW.size hge,hcur,hrl,hrl.aA hone,fun off=> ?_,fun b' sz' cap' he=>by rw[hself0]at he;cases rw<;>cases he;exact⟨hcs,hcm⟩⟩ (fun c hc=> ?_),hlast⟩
       . show(if id=H.length then _ else V.loc id)=none
         rw[if_neg (by omega)];exact hW.fresh id (by omega)
       . show(if b=b then none else _)=none
         rw[if_pos rfl]
       . rw[hself]at hc;simp only[Option.some.injEq]at hc;omega
   . cases h
 . rename_i es hp;exact jn hcb hW hr (by simp only[dL,hp];exact h)
 . rename_i c hp;exact jn hcb hW hr (by simp only[dL,hp];exact h)
 . cases h
 . cases h
theorem bJ {V':View} {fr:Fr} (h:FrR V fr a) (hV:V.Le V') {v:AV} {u:Value} (hr:Rep V' v u) (dst:Option Nat):FrR V' {fr with tm:=bV fr.tm dst v} (a.put dst u):=by
 cases dst with
 |none=>exact h.mono hV
 |some d=>exact⟨by
     have:=(h.tm.mono hV).set d hr
     simpa[bV,Act.put] using this,h.df.mono hV⟩
theorem fH {ops:Array Oper} {o:Oper} {ao:ai} (hT:aj V tm a.tmps.toList) (hc:dE P ops o=some ao):Region.wanted o (yielded ops a.tmps)=bC tm ao.guard:=by
 unfold dE at hc;split at hc
 . cases hc
 . split at hc
   . rename_i hg;cases hc;simp[Region.wanted,hg,bC]
   . rename_i j b hg;split at hc
     . rename_i t ht;cases hc;simp only[Region.wanted,hg,yielded,ht,Option.bind_some,bC]
       cases hx:tm[t]? with
       | none=>
         have:¬t<a.tmps.size:=by
           have h1:=List.getElem?_eq_none_iff.1 hx;rw[hT.1]at h1;simpa using h1
         rw[Array.getElem?_eq_none (Nat.le_of_not_lt this)];simp
       | some x=>
         obtain⟨v,hv,hr⟩:=hT.get hx;rw[Array.getElem?_toList]at hv;rw[hv]
         cases hr<;>simp
     . cases hc
theorem gI {ops:Array Oper} {o:Oper} {ao:ai} (hc:dE P ops o=some ao):cOp P o=some ao.op/\o.dst=ao.dst:=by
 unfold dE at hc;split at hc
 . cases hc
 . rename_i op hop;split at hc
   . cases hc;exact⟨hop,rfl⟩
   . split at hc
     . cases hc;exact⟨hop,rfl⟩
     . cases hc
theorem cr {o:Oper} {ao:AOp} (hc:cOp P o=some ao) (h:∀x xs,ao≠ .dfr x xs):∀c,o.op≠ .defer c:=by
 intro c ho;simp only[cOp,ho]at hc;split at hc
 . split at hc
   . cases hc;exact h _ _ rfl
   . cases hc
 . cases hc
theorem I5 {v:AV} {u:Value} (h:Rep V v u):ChR V [(v,false)] [{v:=u,recovered:=false}]:=⟨h,rfl,rfl,trivial⟩
theorem da {ro:Option Nat} {f:FuncId} {us:Array Value} {R:Ending->World->Prop} (h:CallsIn (Fk none) 0 P f us W R):CallsIn (Fk ro) 0 P f us W R:=by
 cases ro<;>exact h
theorem o6 {ro:Option Nat} {b:Nat} {f:FuncId} {us:Array Value} {x y:Code} {R:Ending->World->Prop} (h:RoundIn (Fk none) 0 P b f us x y W R):RoundIn (Fk ro) 0 P b f us x y W R:=by
 cases ro<;>exact h
theorem uW {cb:CB} (hcb:fD P cb) {rd ro:Option Nat} {ops:Array Oper} {o:Oper} {ao:ai} {fr:Fr} {Q:Exit->Act->World->Prop} {next:Act->World->Prop}
   (hrd:RdR V rd ro) (hc:dE P ops o=some ao) (hF:FrR V fr a) (hW:WR P w0 V H W) {rest:List ai} {r:Ex×Fr×ab}
   (h:aU cb rd (ao::rest) fr H=some r)
   (hn:∀V' a' W' fr' H',bO w0 V V'->WR P w0 V' H' W'->FrR V' fr' a'->aU cb rd rest fr' H'=some r->next a' W')
   (hQ:r.1≠ .normal->∀V' a' W' ex,bO w0 V V'->WR P w0 V' r.2.2 W'->FrR V' r.2.1 a'->ExR V' r.1 ex->Q ex a' W'):
   if Region.wanted o (yielded ops a.tmps)then o.wpIn (Fk ro) 0 P a W next Q else(∀f,o.about P W a.eval=some f->(Fk ro).fn f)/\next (a.put o.dst undef) W:=by
 obtain⟨hop,hdst⟩:=gI hc;rw[fH hF.tm hc,hdst];simp only[aU]at h;split at h
 . rename_i hw;rw[if_pos hw];refine⟨fun _ _=>trivial, ?_⟩;split at h
   . rename_i v hv;have hnd:=cr hop (by rintro x xs hx;rw[hx]at hv;cases hv);obtain⟨V',W',u,h1,h2,h3,h4,_⟩:=gy hW hF.tm hop hv;rw[Oper.semAt_eq _ _ _ hnd,h1,Oper.uponIn_value,hdst];exact hn V' _ W' _ H (h3.grow hW.size (by simp)) h4 (bJ hF h3.le h2 _) h
   . split at h
     . rename_i v H' hv;have hnd:=cr hop (by rintro x xs hx;rw[hx]at hv;simp only[bI]at hv;split at hv<;>cases hv);obtain⟨V',W',u,h1,h2,h3,h4⟩:=cu hW hF.tm hop hv;rw[Oper.semAt_eq _ _ _ hnd,h1,Oper.uponIn_value,hdst];exact hn V' _ W' _ H' h3 h4 (bJ hF h3.le h2 _) h
     . rename_i H' hv;have hnd:=cr hop (by rintro x xs hx;rw[hx]at hv;simp only[bI]at hv;split at hv<;>cases hv);obtain⟨V',W',h1,h3,h4⟩:=cu hW hF.tm hop hv;rw[Oper.semAt_eq _ _ _ hnd,h1,Oper.uponIn_skip,hdst];exact hn V' _ W' _ H' h3 h4 (bJ hF h3.le (Rep.undef V') _) h
     . rename_i f args H' hv;have hnd:=cr hop (by rintro x xs hx;rw[hx]at hv;simp only[bI]at hv;split at hv<;>cases hv);obtain⟨rfl,us,h1,h2⟩:=cu hW hF.tm hop hv;rw[Oper.semAt_eq _ _ _ hnd,h1];split at h
       . rename_i v H'' he;obtain⟨k1,k2⟩:=jn hcb hW h2 he;rw[k1,Oper.uponIn_enter];refine⟨by simp[Fk],da (k2.mono ?_)⟩
         rintro e W' ⟨V',g1,g2,g3⟩
         cases e with
         | returned u=>
           show next (a.put o.dst u) W'
           rw[hdst];exact hn V' _ W' _ H'' g1 g2 (bJ hF g1.le g3 _) h
         |panicked _=>exact g3.elim
         |outgrown=>exact g3.elim
       . rename_i c H'' he;obtain⟨k1,k2⟩:=jn hcb hW h2 he;cases h;rw[k1,Oper.uponIn_enter];refine⟨by simp[Fk],da (k2.mono ?_)⟩
         rintro e W' ⟨V',g1,g2,g3⟩
         cases e with
         |panicked ch=>exact hQ (fun e=>nomatch e) V' a W' _ g1 g2 (hF.mono g1.le) g3
         |returned u=>exact g3.elim
         |outgrown=>exact g3.elim
       . cases h
     . rename_i rw f args H' hv;have hnd:=cr hop (by rintro x xs hx;rw[hx]at hv;simp only[bI]at hv;split at hv<;>cases hv);obtain⟨rfl,us,h1,h2⟩:=cu hW hF.tm hop hv;rw[Oper.semAt_eq _ _ _ hnd,h1];split at h
       . rename_i v H'' he;obtain⟨k1,k2⟩:=ta hcb hW h2 he;rw[k1,Oper.uponIn_enter];refine⟨by simp[Fk],da (k2.mono ?_)⟩
         rintro e W' ⟨V',g1,g2,g3⟩
         cases e with
         | returned u=>
           show next (a.put o.dst u) W'
           rw[hdst];exact hn V' _ W' _ H'' g1 g2 (bJ hF g1.le g3 _) h
         |panicked _=>exact g3.elim
         |outgrown=>exact g3.elim
       . rename_i c H'' he;obtain⟨k1,k2⟩:=ta hcb hW h2 he;cases h;rw[k1,Oper.uponIn_enter];refine⟨by simp[Fk],da (k2.mono ?_)⟩
         rintro e W' ⟨V',g1,g2,g3⟩
         cases e with
         |panicked ch=>exact hQ (fun e=>nomatch e) V' a W' _ g1 g2 (hF.mono g1.le) g3
         |returned u=>exact g3.elim
         |outgrown=>exact g3.elim
       . cases h
     . rename_i id args H' hv;have hnd:=cr hop (by rintro x xs hx;rw[hx]at hv;simp only[bI]at hv;split at hv<;>cases hv);obtain⟨rfl,b,us,h1,hb,h2⟩:=cu hW hF.tm hop hv;rw[Oper.semAt_eq _ _ _ hnd,h1];split at h
       . rename_i v H'' he;obtain⟨f,tmps,as,bd,k1,k2⟩:=hcb.yl id args _ _ _ he w0 V W b us hW hb h2;rw[k1,Oper.uponIn_round];refine⟨by simp[Fk],o6 (k2.mono ?_)⟩
         rintro e W' ⟨V',g1,g2,g3⟩
         cases e with
         | returned u=>
           show next (a.put o.dst u) W'
           rw[hdst];exact hn V' _ W' _ H'' g1 g2 (bJ hF g1.le g3 _) h
         |panicked _=>exact g3.elim
         |outgrown=>exact g3.elim
       . rename_i c H'' he;obtain⟨f,tmps,as,bd,k1,k2⟩:=hcb.yl id args _ _ _ he w0 V W b us hW hb h2;cases h;rw[k1,Oper.uponIn_round];refine⟨by simp[Fk],o6 (k2.mono ?_)⟩
         rintro e W' ⟨V',g1,g2,g3⟩
         cases e with
         |panicked ch=>exact hQ (fun e=>nomatch e) V' a W' _ g1 g2 (hF.mono g1.le) g3
         |returned u=>exact g3.elim
         |outgrown=>exact g3.elim
       . cases h
     . rename_i v H' hv;have hnd:=cr hop (by rintro x xs hx;rw[hx]at hv;simp only[bI]at hv;split at hv<;>cases hv);obtain⟨rfl,u,h1,h2⟩:=cu hW hF.tm hop hv;cases h;rw[Oper.semAt_eq _ _ _ hnd,h1,Oper.uponIn_panic];exact hQ (fun e=>nomatch e) V a W _ (.refl w0 V) hW hF (I5 h2)
     . rename_i d H' hv;split at h
       . cases h
       . rename_i hro
         have hrd':rd=none:=by cases rd<;>simp_all
         subst hrd'
         cases ro with
         |some l=>exact hrd.elim
         | none=>
           obtain⟨rfl,e,c,h0,h1,h2,h3⟩:=cu hW hF.tm hop hv;have:(o.semAt (Fk none).round a.eval).run P W= .ok (.defer e) W:=h2;rw[this,Oper.uponIn_defer,hdst];exact hn V _ W _ _ (.refl w0 V) hW (bJ (fr:={fr with df:=d::fr.df}) (a:={a with defers:=e::a.defers}) ⟨hF.tm,h3,hF.df⟩ (.refl V) (Rep.undef V) _) h
     . cases h
 . rename_i hw;rw[if_neg hw];exact⟨fun _ _=>trivial,hn V _ W _ H (.refl w0 V) hW (bJ hF (.refl V) (Rep.undef V) _) h⟩
theorem jO {cb:CB} (hcb:fD P cb) {rd ro:Option Nat} {ops:Array Oper} {Q:Exit->Act->World->Prop} {r:Ex×Fr×ab}:∀(l:List Oper) (os:List ai) (V:View) (fr:Fr) (H:ab) (a:Act) (W:World),
   RdR V rd ro->cK (dE P ops) l=some os->FrR V fr a->WR P w0 V H W->aU cb rd os fr H=some r→
   (∀V' a' W' ex,bO w0 V V'->WR P w0 V' r.2.2 W'->FrR V' r.2.1 a'->ExR V' r.1 ex->Q ex a' W')->wpListIn (Fk ro) 0 P ops Q l a W:=by
 intro l
 induction l with
 | nil=>
   intro os V fr H a W _ hm hF hW h hQ;cases hm;cases h;exact hQ V a W _ (.refl w0 V) hW hF trivial
 | cons o l ih=>
   intro os V fr H a W hrd hm hF hW h hQ;simp only[cK]at hm;split at hm
   . rename_i ao os' h1 h2;cases hm;exact uW hcb hrd h1 hF hW h (fun V' a' W' fr' H' g1 g2 g3 g4=>ih os' V' fr' H' a' W' (hrd.mono g1.le) h2 g3 g2 g4 fun V'' a'' W'' ex k1=>hQ V'' a'' W'' ex (g1.trans k1)) (fun _=>hQ)
   . cases hm
end Go.Am
