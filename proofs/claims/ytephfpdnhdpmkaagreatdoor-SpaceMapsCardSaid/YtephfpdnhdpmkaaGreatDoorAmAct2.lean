/- THE OPERATIONS THAT ACT, the rest, and all together. No condition. -/
import Derived.Test.YtephfpdnhdpmkaaGreatDoorAmAct
import Derived.Lib.AppendZerosOnto
open Int (reduceEq)
open Nat (reduceEqDiff reduceAdd reduceMul reduceLT reduceLeDiff)
set_option linter.all false
namespace Go.Am
open Go Go.RowKit
set_option linter.unusedSectionVars false
variable [dy]
variable {P:Program} {w0:World} {V:View} {H:ab} {W:World} {tm:List AV} {a:Act}
theorem pH (ents:Array MapEntry) (i:Nat) (k v:Value):((ents.modify i fun e=>{e with key:=k,val:=v}).toList.map (·.key))=(ents.toList.map (·.key)).set i k:=by
 apply List.ext_getElem?;intro j;simp only[List.getElem?_map,List.getElem?_set,Array.toList_modify,List.getElem?_modify,List.length_map];by_cases hij:i=j
 . subst hij;simp only[if_true]
   cases h:ents.toList[i]? with
   | none=>
     have:¬i<ents.toList.length:=fun hl=>by simp at h hl;omega
     simp only[this,if_false];simp
   | some e=>
     have:i<ents.toList.length:=(List.getElem?_eq_some_iff.1 h).1;simp only[this,if_true];simp
 . simp[hij]
theorem pW (ents:Array MapEntry) (i:Nat) (k v:Value):((ents.modify i fun e=>{e with key:=k,val:=v}).toList.map (·.val))=(ents.toList.map (·.val)).set i v:=by
 apply List.ext_getElem?;intro j;simp only[List.getElem?_map,List.getElem?_set,Array.toList_modify,List.getElem?_modify,List.length_map];by_cases hij:i=j
 . subst hij;simp only[if_true]
   cases h:ents.toList[i]? with
   | none=>
     have:¬i<ents.toList.length:=fun hl=>by simp at h hl;omega
     simp only[this,if_false];simp
   | some e=>
     have:i<ents.toList.length:=(List.getElem?_eq_some_iff.1 h).1;simp only[this,if_true];simp
 . simp[hij]
theorem vl (es:List (AV×AV)) (i:Nat) (k v:AV):(es.set i (k,v)).map (·.1)=(es.map (·.1)).set i k:=by rw[List.map_set]
theorem wM (es:List (AV×AV)) (i:Nat) (k v:AV):(es.set i (k,v)).map (·.2)=(es.map (·.2)).set i v:=by rw[List.map_set]
theorem tC (hW:WR P w0 V H W) (hT:aj V tm a.tmps.toList) {o:Oper} {t kt et:TypeId} {m k x:Operand} {m' k' x':X} {kk:Nat} {nx:Nx} {H':ab}
   (ho:execOp a.eval o=(do Instr.mapUpdate t (a.eval m) (a.eval k) (a.eval x);pure .skip)) (hu:P.underlying t=some (.map kt et)) (hm:cX m=some m') (hk:cX k=some k') (hx:cX x=some x') (hkk:kindOf P kt=some kk)
   (h:bI (.hO kk m' k' x') tm H=some (nx,H')):fJ P w0 V H W a o H' nx:=by
 have hr:=aM hT hm;have hrk:=aM hT hk;have hrx:=aM hT hx;have hck:=lK (W:=W) hkk false (a.eval k);simp only[bI]at h;split at h
 . rename_i id he;rw[he]at hr;obtain⟨b,hb,hl⟩:=uL hr;split at h
   . rename_i es hes;obtain⟨b',ents,clk,hb',hge,hh,hk1,hk2,hst⟩:=hW.obj id _ hes;rw[hl]at hb';cases hb';have hg:=oS (P:=P) hh
     have fin:∀(ents':Array MapEntry) (clk':Nat) (es':List (AV×AV)),(Instr.mapUpdate t (a.eval m) (a.eval k) (a.eval x)).run P W= .ok () {W with heap:=W.heap.setIfInBounds b (.map ents' clk')}→
         aj V (es'.map (·.1)) (ents'.toList.map (·.key))->aj V (es'.map (·.2)) (ents'.toList.map (·.val))->Stm ents' clk'->fJ P w0 V H W a o (H.set id (.map es')) .skip:=by
       intro ents' clk' es' hrun h1 h2 h3;refine⟨V,{W with heap:=W.heap.setIfInBounds b (.map ents' clk')},by rw[ho];simp[hrun],.refl w0 V,hW.upd hes rfl (by simp[aK,hl]) (cB W b _) (fun p v hp=> ?_) ⟨b,ents',clk',hl,hge,gM hh _,h1,h2,h3⟩ (fun _=>trivial)⟩
       have hne:p.block≠b:=fun e=>by
         have hcell:=(hW.imm p v hp).1;unfold World.cell? at hcell;rw[e,hh]at hcell;cases hcell
       exact(cB W b _).cell (hW.imm p v hp).1 (by simpa using hne)
     split at h
     . rename_i i v0 e1 e2;cases h;obtain⟨r',hf',hmm⟩:=eB (W:=W) hkk hrk hk1 hk2 e2
       cases r' with
       |none=>exact hmm.elim
       | some r'=>
         obtain⟨j',vv⟩:=r';obtain⟨rfl,_⟩:=hmm;obtain⟨_,e,hge',hce,_⟩:=r6 e2;rw[Nat.sub_zero]at hge'
         have hek:(es.map (·.1))[i]? =some e.1:=by simp[hge']
         obtain⟨uk,huk,hruk⟩:=hk1.get hek
         have hents:∃me,ents[i]? =some me/\me.key=uk:=by
           simp only[List.getElem?_map,Option.map_eq_some_iff,Array.getElem?_toList]at huk;exact huk
         obtain⟨me,hme,hmk⟩:=hents
         have hstay:(Instr.keyThatStays (((ents[i]?).map (·.key)).getD (a.eval k)) (a.eval k)).run P W= .ok (a.eval k) W:=by
           simp only[hme,Option.map_some,Option.getD_some,hmk,Instr.keyThatStays];rw[qZ hrk hruk hce 10000];rfl
         refine fin (ents.modify i fun e=>{e with key:=a.eval k,val:=a.eval x}) clk _ ?_ ?_ ?_ ?_
         . rw[hb];simp only[Instr.mapUpdate,Sem.run_bind,run_underlying hu,Result.andThen_ok,hg,hck,hf',hstay,qM hh]
         . rw[vl,pH];exact hk1.set i hrk
         . rw[wM,pW];exact hk2.set i hrx
         . exact hst.modify i _ _
     . rename_i e1 e2;cases h;obtain⟨r',hf',hmm⟩:=eB (W:=W) hkk hrk hk1 hk2 e2
       cases r' with
       |some r'=>exact hmm.elim
       | none=>
         refine fin (ents.push {key:=a.eval k,val:=a.eval x,born:=clk}) (clk+1) _ ?_ ?_ ?_ ?_
         . rw[hb];simp only[Instr.mapUpdate,Sem.run_bind,run_underlying hu,Result.andThen_ok,hg,hck,hf',qM hh]
         . rw[List.map_append,Array.toList_push,List.map_append];exact hk1.append (aj.cons hrk (aj.nil V))
         . rw[List.map_append,Array.toList_push,List.map_append];exact hk2.append (aj.cons hrx (aj.nil V))
         . exact hst.push _ _
     . cases h
   . cases h
 . cases h
theorem gY {us vs:Array Value} {xs ys:List AV} (h:aj V xs us.toList) (k:aj V ys vs.toList):aj V (xs++ys) (us++vs).toList:=by
 rw[Array.toList_append];exact h.append k
theorem rS (hT:aj V tm a.tmps.toList) {o:Oper} {f:FuncId} {args:Array Operand} {tys:Array TypeId} {xs:List X} {nx:Nx} {H':ab}
   (ho:o.op= .call {callee:= .value (.func f),args,argTypes:=tys}) (hx:cK cX args.toList=some xs) (h:bI (.br f xs) tm H=some (nx,H')):fJ P w0 V H W a o H' nx:=by
 simp only[bI,Option.some.injEq,Prod.mk.injEq]at h;obtain⟨rfl,rfl⟩:=h;refine⟨rfl,args.map a.eval, ?_,jz hT hx⟩;simp[execOp,ho,resolve,Deferred.ofValue,invoke,Act.eval]
theorem mB (hT:aj V tm a.tmps.toList) {o:Oper} {rw:Bool} {f:FuncId} {args:Array Operand} {tys:Array TypeId} {xs:List X} {nx:Nx} {H':ab}
   (ho:o.op= .call {callee:= .value (.func f),args,argTypes:=tys}) (hx:cK cX args.toList=some xs) (h:bI (.jt rw f xs) tm H=some (nx,H')):fJ P w0 V H W a o H' nx:=by
 simp only[bI,Option.some.injEq,Prod.mk.injEq]at h;obtain⟨rfl,rfl⟩:=h;exact rS (w0:=w0) (nx:= .enter f (xs.map (·.ev tm))) hT ho hx rfl
theorem BZ (hT:aj V tm a.tmps.toList) {o:Oper} {f:Operand} {f':X} {args:Array Operand} {tys:Array TypeId} {xs:List X} {nx:Nx} {H':ab}
   (ho:o.op= .call {callee:= .value f,args,argTypes:=tys}) (hf:cX f=some f') (hx:cK cX args.toList=some xs) (h:bI (.cf f' xs) tm H=some (nx,H')):fJ P w0 V H W a o H' nx:=by
 have hr:=aM hT hf;have hrs:=jz hT hx;simp only[bI]at h;split at h
 . rename_i g caps he;simp only[Option.some.injEq,Prod.mk.injEq]at h;obtain⟨rfl,rfl⟩:=h;rw[he]at hr;generalize hu:a.eval f=u at hr
   cases hr with
   | fn hl hc=>
     rename_i cs;refine⟨rfl,args.map a.eval++cs, ?_,gY hrs (cY hl hc)⟩;simp[execOp,ho,resolve,Deferred.ofValue,invoke,hu]
 . rename_i g fs he;simp only[Option.some.injEq,Prod.mk.injEq]at h;obtain⟨rfl,rfl⟩:=h;rw[he]at hr;generalize hu:a.eval f=u at hr
   cases hr with
   | bnd hl hc=>
     rename_i cs;refine⟨rfl,cs++args.map a.eval, ?_,gY (cY hl hc) hrs⟩;simp[execOp,ho,resolve,Deferred.ofValue,invoke,hu]
 . rename_i id he;simp only[Option.some.injEq,Prod.mk.injEq]at h;obtain⟨rfl,rfl⟩:=h;rw[he]at hr;generalize hu:a.eval f=u at hr
   cases hr with
   | yld hl=>
     rename_i b;refine⟨rfl,b,args.map a.eval, ?_,hl,hrs⟩;simp[execOp,ho,resolve,Deferred.ofValue,invoke,hu]
 . cases h
theorem CT (hT:aj V tm a.tmps.toList) {o:Oper} {x:Operand} {nx:Nx} {H':ab} {ao:AOp} (ho:o.op= .panic x) (hc:cOp P o=some ao) (h:bI ao tm H=some (nx,H')):fJ P w0 V H W a o H' nx:=by
 simp only[cOp,ho]at hc;obtain⟨x',hx,rfl⟩:=Option.map_eq_some_iff.1 hc;have hr:=aM hT hx;simp only[bI]at h;split at h
 . rename_i t v he;simp only[Option.some.injEq,Prod.mk.injEq]at h;obtain⟨rfl,rfl⟩:=h;rw[he]at hr;refine⟨rfl,a.eval x, ?_,hr⟩;generalize hu:a.eval x=u at hr;cases hr;simp[execOp,ho,hu,Instr.panic]
 . cases h
theorem HA (hT:aj V tm a.tmps.toList) {o:Oper} {c:Call} {nx:Nx} {H':ab} {ao:AOp} (ho:o.op= .defer c) (hc:cOp P o=some ao) (h:bI ao tm H=some (nx,H')):fJ P w0 V H W a o H' nx:=by
 simp only[cOp,ho]at hc;split at hc
 . rename_i f hcal;split at hc
   . rename_i f' xs hf hx;cases hc;have hr:=aM hT hf;have hrs:=jz hT hx;simp only[bI]at h;split at h
     . rename_i g caps he;simp only[Option.some.injEq,Prod.mk.injEq]at h;obtain⟨rfl,rfl⟩:=h;rw[he]at hr;generalize hu:a.eval f=u at hr
       cases hr with
       | fn hl hcc=>
         rename_i cs
         have hres:(resolve a.eval c o.type).run P W= .ok {target:= .fn (.func g) cs,args:=c.args.map a.eval} W:=by
           simp[resolve,hcal,Deferred.ofValue,hu]
         exact⟨rfl,_,c,ho,hres,by simp[execOp,ho,hres],cs,rfl,gY hrs (cY hl hcc)⟩
     . cases h
   . cases hc
 . cases hc
theorem iJ (t ty e:TypeId) (i:TypeInfo) (ht:P.underlying t=some (.slice e)) (hi:P.info? e=some i)
   (g sLen sCap:Nat) (cur:Array Value) (t':TypeId) (hg:W.heap[g]? =some (.cells cur t' (0,0)))
   (ad:Addr) (m c:Nat) (news:List Value) (hl:news.length=m*i.size) (hnews:∀j u,news[j]? =some u->W.cell? (ad.add j)=some u) (h1:∀u∈news,u.oneCell'=true)
   (hroom:sLen+m<=sCap) (hfit:sLen*i.size+news.length<=cur.size):
   (Builtin.append_ #[t,t] ty #[.slice (some ⟨g,0,none⟩) sLen sCap,.slice (some ad) m c]).run P W=
     .ok (.slice (some ⟨g,0,none⟩) (sLen+m) sCap) (W.setRow g (cur.toList.take (sLen*i.size)++news++cur.toList.drop (sLen*i.size+news.length)).toArray):=by
 have hf:=run_firstCells_some (P:=P) W i.size m ad m c news hl hnews;have hst:=run_storeCells_at P g (sLen*i.size) t' news 0 cur W hg (by simpa using hfit) h1;simp only[Nat.add_zero]at hst;simp[Builtin.append_,run_underlying ht,sizeOf,typeInfo,hi,Builtin.lenOf,hroom,hf,Addr.add_lit,hst]
def View.row (V:View) (id:Nat) (v:Value) (g:Nat) (xs:List Value):View:=
 {imm:=fun p=>if p.block=g/\p.spot=none/\p.off<xs.length then xs[p.off]? else V.imm p,loc:=fun i=>if i=id then some (.own v)else V.loc i}
theorem oE {V:View} {cs:List AV} {xs:List Value} (hr:aj V cs xs) {sz n cap g id:Nat} (hn:cs.length=n*sz) (hcap:n<=cap)
   (hle:V.Le (V.row id (.slice (some ⟨g,0,none⟩) n cap) g xs)):Rep (V.row id (.slice (some ⟨g,0,none⟩) n cap) g xs) (.sl sz n cs (.own id)) (.slice (some ⟨g,0,none⟩) n cap):=by
 refine .slo (fun i=>xs[i]!) hn hcap (by simp[View.row]) (fun i hi=> ?_) (fun i x hx=> ?_)
 . have hi':i<xs.length:=by rw[<-hr.1];exact hi
   show(if g=g/\(none:Option Nat)=none/\i<xs.length then xs[i]? else V.imm ⟨g,i,none⟩)=_
   rw[if_pos ⟨rfl,rfl,hi'⟩];simp[hi']
 . have hi':i<xs.length:=by rw[<-hr.1];exact(List.getElem?_eq_some_iff.1 hx).1
   exact(hr.mono hle).2 i x _ hx (by simp[hi'])
theorem WR.newRow (hW:WR P w0 V H W) {W1:World} (hsz:W1.heap.size=W.heap.size) (hh:W1.heap=W.heap) (hos:W1.os=W.os) (htp:W1.tape=W.tape) (hout:W1.output=W.output) {sz n cap:Nat} {xs:List Value} {cells:Array Value} {e:TypeId} {cs:List AV} (hr:aj V cs xs)
   (hn:cs.length=n*sz) (hcap:n<=cap) (hmax:cap<=maxLen) (hcs:cells.size=cap*sz) (ht:cells.toList.take (n*sz)=xs) (hone:aA cs=true):
   let V':=V.row H.length (.slice (some ⟨W.heap.size,0,none⟩) n cap) W.heap.size xs
   bO w0 V V'/\WR P w0 V' (H++[.tok sz]) (W1.alloc (.cells cells e))/\Rep V' (.sl sz n cs (.own H.length)) (.slice (some ⟨W.heap.size,0,none⟩) n cap):=by
 intro V'
 have hlen:xs.length=n*sz:=by rw[<-hr.1];exact hn
 have hle:V.Le V':=⟨fun p v hp=>by
     have:=hW.cV p v hp;show(if p.block=W.heap.size/\p.spot=none/\p.off<xs.length then xs[p.off]? else V.imm p)=some v
     rw[if_neg (by omega)];exact hp,
   fun i l hl=>by
     have:i≠H.length:=fun e=>by rw[e,hW.fresh _ (Nat.le_refl _)]at hl;cases hl
     show(if i=H.length then _ else V.loc i)=some l
     rw[if_neg this]
     exact hl⟩
 have hg:W.grownBy (W1.alloc (.cells cells e)) none:=⟨by simp[World.alloc,hos],by simp[World.alloc,htp],by simp[World.alloc,hout],by simp[hsz],fun k hk _=>by rw[Below.heap_alloc W1 _ k (by omega),hh]⟩
 have hs:Stp V W V' (W1.alloc (.cells cells e)) none:=⟨hle,hg,fun p v hp=>by
   change (if p.block=W.heap.size/\p.spot=none/\p.off<xs.length then xs[p.off]? else V.imm p)=some v at hp;split at hp
   . rename_i hc;exact .inr (.inl (by omega))
   . exact .inl hp⟩
 have hnew:(W1.alloc (.cells cells e)).heap[W.heap.size]? =some (.cells cells e (0,0)):=by rw[<-hsz];exact heap_alloc_new W1 _
 have hrone:=hr.aA hone;refine⟨hs.grow hW.size (by simp),hW.push hs (fun p v hp=> ?_) (fun id hid=> ?_) ⟨_,e,n,xs,W.heap.size, ?_,⟨hlen,.inr ⟨W.heap.size,cap,cells,rfl,hW.size,hnew,hcap,hmax,hcs,ht⟩⟩,rfl,fun off hoff=> ?_⟩ (fun b hb=> ?_),oE hr hn hcap hle⟩
 . change (if p.block=W.heap.size/\p.spot=none/\p.off<xs.length then xs[p.off]? else V.imm p)=some v at hp;split at hp
   . rename_i hc;obtain⟨b,off,spot⟩:=p;obtain⟨rfl,rfl,hoff⟩:=hc;refine⟨?_,hrone v (List.mem_of_getElem? hp)⟩;simp only[World.cell?,hnew];rw[<-ht,List.getElem?_take]at hp;split at hp
     . simpa using hp
     . cases hp
   . exact⟨hg.cell (hW.imm p v hp).1 (by simp),(hW.imm p v hp).2⟩
 . show(if id=H.length then _ else V.loc id)=none
   rw[if_neg (by omega)];exact hW.fresh id (by omega)
 . show(if H.length=H.length then _ else V.loc H.length)=_
   rw[if_pos rfl]
 . show(if W.heap.size=W.heap.size/\(none:Option Nat)=none/\off<xs.length then xs[off]? else V.imm ⟨W.heap.size,off,none⟩)=none
   rw[if_neg (by omega)]
   cases hp:V.imm ⟨W.heap.size,off,none⟩with
   |none=>rfl
   |some v=>exact absurd (hW.cV _ _ hp) (Nat.lt_irrefl _)
 . have:aK V' H.length=some W.heap.size:=by simp[aK,V',View.row,Value.ownBlock]
   rw[this]at hb;cases hb;exact Nat.le_refl _
theorem WR.kill (hW:WR P w0 V H W) (g:Nat):WR P w0 V (H.set g .dead) W:=by
 have get:∀(i:Nat) (x:av),(H.set g .dead)[i]? =some x->x.live=true->H[i]? =some x:=by
   intro i x hx hl;rw[List.getElem?_set]at hx;split at hx
   . split at hx
     . cases hx;cases hl
     . cases hx
   . exact hx
 refine⟨hW.below,hW.imm,fun i x hx=> ?_,fun i j x y b hx hy hlx hly hbx hby=>hW.inj i j x y b (get i x hx hlx) (get j y hy hly) hlx hly hbx hby,fun i hi=>hW.fresh i (by simpa using hi),hW.mz⟩
 cases hl:x.live with
 |true=>exact hW.obj i x (get i x hx hl)
 |false=>cases x<;>first|(cases hl;done)|trivial
theorem WR.Ho (hW:WR P w0 V H W) {V':View} {W':World} {o:av} {row:Option Nat} (hs:Stp V W V' W' row) (hrow:∀(id:Nat) (o:av) (b:Nat),H[id]? =some o->o.live=true->aK V id=some b->some b≠row)
   (hr:∀b,row=some b->w0.heap.size<=b) (hi:∀p v,V'.imm p=some v->W'.cell? p=some v/\v.oneCell'=true)
   (hf:∀id,H.length<id->V'.loc id=none) (ho:mU P w0 V' W' H.length o) (hb:∀b,aK V' H.length=some b->∀(id:Nat) (o:av),H[id]? =some o->o.live=true->aK V id≠some b):WR P w0 V' (H++[o]) W':=by
 refine⟨Below.ik hW.below hs.grown hr,hi,fun id o' ho'=> ?_, ?_,fun id hid=>hf id (by simp at hid;omega),hW.mz⟩
 . by_cases hid:id<H.length
   . rw[List.getElem?_append_left hid]at ho';exact(hW.obj id o' ho').kept hs (fun hl b hb=>hrow id o' b ho' hl hb)
   . rw[List.getElem?_append_right (by omega)]at ho'
     have:id=H.length:=by
       have:=(List.getElem?_eq_some_iff.1 ho').1;simp at this;omega
     subst this;simp at ho';subst ho';exact ho
 . intro id id' o1 o2 b h1 h2 l1 l2 b1 b2
   have back:∀i o',(H++[o])[i]? =some o'->o'.live=true->i<H.length->aK V' i=some b->H[i]? =some o'/\aK V i=some b:=by
     intro i o' hio hlo hi hbi;rw[List.getElem?_append_left hi]at hio;obtain⟨c,hc,_,hlt⟩:=(hW.obj i o' hio).blk hlo;have:=fX hs.le hc;rw[hbi]at this;cases this;exact⟨hio,hc⟩
   have lt:∀i o',(H++[o])[i]? =some o'->i<H.length∨i=H.length:=by
     intro i o' h;have:=(List.getElem?_eq_some_iff.1 h).1;simp at this;omega
   rcases lt _ _ h1 with k1|k1<;>rcases lt _ _ h2 with k2|k2
   . have e1:=back _ _ h1 l1 k1 b1;have e2:=back _ _ h2 l2 k2 b2;exact hW.inj id id' o1 o2 b e1.1 e2.1 l1 l2 e1.2 e2.2
   . have e1:=back _ _ h1 l1 k1 b1;subst k2;exact absurd e1.2 (hb b b2 id o1 e1.1 l1)
   . have e2:=back _ _ h2 l2 k2 b2;subst k1;exact absurd e2.2 (hb b b1 id' o2 e2.1 l2)
   . omega
theorem s5 (hW:WR P w0 V H W) {g gb n cap m sz:Nat} {e1:TypeId} {cur:Array Value} {xs news:List Value} {cs ds:List AV}
   (hg:H[g]? =some (.tok sz)) (hl:V.loc g=some (.own (.slice (some ⟨gb,0,none⟩) n cap))) (hge:w0.heap.size<=gb) (hcur:W.heap[gb]? =some (.cells cur e1 (0,0)))
   (hlen:xs.length=n*sz) (htk:cur.toList.take (n*sz)=xs) (hcsz:cur.size=cap*sz) (hcapm:cap<=maxLen) (hspare:∀off,n*sz<=off->V.imm ⟨gb,off,none⟩=none)
   (hxs:aj V cs xs) (hxone:∀v∈xs,v.oneCell'=true) (hnr:aj V ds news) (hnl:news.length=m*sz) (hn1:∀v∈news,v.oneCell'=true) (hroom:n+m<=cap):
   let V':=V.row H.length (.slice (some ⟨gb,0,none⟩) (n+m) cap) gb (xs++news)
   bO w0 V V'/\WR P w0 V' (H.set g .dead++[.tok sz]) (W.setRow gb (xs++news++cur.toList.drop (n*sz+news.length)).toArray)∧
     Rep V' (.sl sz (n+m) (cs++ds) (.own H.length)) (.slice (some ⟨gb,0,none⟩) (n+m) cap):=by
 intro V';have hlt:gb<W.heap.size:=(Array.getElem?_eq_some_iff.1 hcur).1
 have hbk:aK V g=some gb:=by simp[aK,hl,Value.ownBlock]
 have hl2:(xs++news).length=(n+m)*sz:=by rw[List.length_append,hlen,hnl,Nat.add_mul]
 have seen:∀off v,V.imm ⟨gb,off,none⟩=some v->off<n*sz/\xs[off]? =some v:=by
   intro off v hp
   have hlo:off<n*sz:=by
     apply Nat.lt_of_not_le;intro hge';rw[hspare off hge']at hp;cases hp
   have h1:=(hW.imm _ _ hp).1
   have h2:cur[off]? =some v:=by simpa[World.cell?,hcur] using h1
   refine⟨hlo, ?_⟩;rw[<-htk,List.getElem?_take,if_pos hlo,Array.getElem?_toList,h2]
 have hle:V.Le V':=⟨fun p v hp=>by
     show(if p.block=gb/\p.spot=none/\p.off<(xs++news).length then(xs++news)[p.off]? else V.imm p)=some v
     split
     . rename_i hc;obtain⟨b,off,spot⟩:=p;obtain⟨rfl,rfl,hoff⟩:=hc;obtain⟨h1,h2⟩:=seen off v hp;rw[List.getElem?_append_left (by rw[hlen];exact h1)];exact h2
     . exact hp,
   fun i l hil=>by
     have:i≠H.length:=fun e=>by rw[e,hW.fresh _ (Nat.le_refl _)]at hil;cases hil
     show(if i=H.length then _ else V.loc i)=some l
     rw[if_neg this]
     exact hil⟩
 have hs:Stp V W V' (W.setRow gb (xs++news++cur.toList.drop (n*sz+news.length)).toArray) (some gb):=⟨hle,bN W gb _,fun p v hp=>by
   change (if p.block=gb/\p.spot=none/\p.off<(xs++news).length then(xs++news)[p.off]? else V.imm p)=some v at hp;split at hp
   . rename_i hc;exact .inr (.inr (by rw[hc.1]))
   . exact .inl hp⟩
 have hnew:=setRow_heap W gb cur (xs++news++cur.toList.drop (n*sz+news.length)).toArray e1 (0,0) hcur;have hK:=hW.kill g
 have hone:∀v∈xs++news,v.oneCell'=true:=fun v hv=>(List.mem_append.1 hv).elim (hxone v) (hn1 v)
 have other:∀(id:Nat) (o:av),(H.set g .dead)[id]? =some o->o.live=true->aK V id≠some gb:=by
   intro id o ho hlo hb;rw[List.getElem?_set]at ho;split at ho
   . split at ho
     . cases ho;cases hlo
     . cases ho
   . rename_i hne;exact hne (hW.inj g id _ o gb hg ho rfl hlo hbk hb)
 have hlenH:(H.set g .dead).length=H.length:=List.length_set;refine⟨hs.grow hW.size (fun b hb=>by cases hb;exact hge),hK.Ho hs (fun id o b ho hlo hb he=> ?_) (fun b hb=>by cases hb;exact hge) (fun p v hp=> ?_) (fun id hid=> ?_) ?_ (fun b hb id o ho hlo=> ?_),oE (hxs.append hnr) (by rw[(hxs.append hnr).1];exact hl2) hroom hle⟩
 . cases he;exact other id o ho hlo hb
 . change (if p.block=gb/\p.spot=none/\p.off<(xs++news).length then(xs++news)[p.off]? else V.imm p)=some v at hp;split at hp
   . rename_i hc;obtain⟨b,off,spot⟩:=p;obtain⟨rfl,rfl,hoff⟩:=hc;refine⟨?_,hone v (List.mem_of_getElem? hp)⟩;simp only[World.cell?,hnew];rw[<-List.getElem?_append_left (l₂:=cur.toList.drop (n*sz+news.length)) hoff]at hp;simpa using hp
   . rename_i hc;obtain⟨h1,h2⟩:=hW.imm p v hp;refine⟨(bN W gb _).cell h1 (fun e=> ?_),h2⟩
     have hblk:p.block=gb:=by simpa using e
     have hspot:p.spot=none:=by
       cases hsp:p.spot with
       |none=>rfl
       | some q=>
         exfalso;unfold World.cell? at h1;rw[hblk,hcur]at h1;simp[hsp]at h1
     obtain⟨b,off,spot⟩:=p;simp only at hblk hspot;subst hblk hspot;have:=(seen off v hp).1;exact hc ⟨rfl,rfl,by rw[hl2,Nat.add_mul];exact Nat.lt_of_lt_of_le this (Nat.le_add_right _ _)⟩
 . rw[hlenH]at hid;show(if id=H.length then _ else V.loc id)=none
   rw[if_neg (by omega)];exact hW.fresh id (by omega)
 . rw[hlenH];refine⟨_,e1,n+m,xs++news,gb, ?_,⟨hl2,.inr ⟨gb,cap,_,rfl,hge,hnew,hroom,hcapm, ?_, ?_⟩⟩,rfl,fun off hoff=> ?_⟩
   . show(if H.length=H.length then _ else V.loc H.length)=_
     rw[if_pos rfl]
   . simp only[List.size_toArray,List.length_append,List.length_drop,Array.length_toList,hlen,hcsz,hnl];have:=Nat.mul_le_mul_right sz hroom;rw[Nat.add_mul]at this;omega
   . rw[List.take_left' hl2]
   . show(if gb=gb/\(none:Option Nat)=none/\off<(xs++news).length then(xs++news)[off]? else V.imm ⟨gb,off,none⟩)=none
     rw[if_neg (by omega)];exact hspare off (Nat.le_trans (Nat.mul_le_mul_right _ (Nat.le_add_right _ _)) hoff)
 . have:aK V' H.length=some gb:=by simp[aK,V',View.row,Value.ownBlock]
   rw[hlenH,this]at hb;cases hb;exact other id o ho hlo
theorem As {H:ab} (hW:WR P w0 V H W) {y:AV} {u:Value} (hr:Rep V y u) {sz m:Nat} {ds:List AV} {tk:Tk} (he:rowOf H y= .sl sz m ds tk):
   (u= .slice none 0 0/\m=0/\ds=[])∨(∃a,u= .slice (some a) 0 0/\m=0/\ds=[])∨∃(b off cap:Nat) (vs:List Value),u= .slice (some ⟨b,off,none⟩) m cap/\aj V ds vs/\eC W b off vs:=by
 have plain:y= .sl sz m ds tk->(u= .slice none 0 0/\m=0/\ds=[])∨(∃a,u= .slice (some a) 0 0/\m=0/\ds=[])∨∃(b off cap:Nat) (vs:List Value),u= .slice (some ⟨b,off,none⟩) m cap/\aj V ds vs/\eC W b off vs:=by
   rintro rfl
   rcases gB hr with h1|h1|⟨b,off,cap,fx,hxv,k1,k2,k3,k4,k5⟩
   . exact .inl h1
   . exact .inr (.inl h1)
   . obtain⟨vs,h1,h2⟩:=dH hW k4 k5;exact .inr (.inr ⟨b,off,cap,vs,hxv,h1,h2⟩)
 unfold rowOf at he;split at he
 . rename_i sz1 id off m1;split at he
   . rename_i cs hg;split at he
     . rename_i hc;cases he;generalize hu:u=u' at hr
       cases hr with
       | msl hl hnc=>
         rename_i b cap;obtain⟨b2,vs,t,hb,hge,hh,hrep,hone,_⟩:=hW.obj id _ hg;rw[hl]at hb;cases hb;refine .inr (.inr ⟨b,off,cap,((vs.toList.take cs.length).drop off).take (m*sz),rfl,(hrep.drop _).take _, ?_⟩);have:=((jb hh).take cs.length).drop off;rw[Nat.zero_add]at this;exact this.take _
     . cases he
   . cases he
 . exact plain he
theorem y0 (hW:WR P w0 V H W) (hT:aj V tm a.tmps.toList) {o:Oper} {s x:Operand} {t e:TypeId} {i:TypeInfo} {z:AV} {s' x':X} {nx:Nx} {H':ab}
   (ho:o.op= .call {callee:= .builtin .append,args:= #[s,x],argTypes:= #[t,t]}) (hu:P.underlying t=some (.slice e)) (hi:P.info? e=some i) (hz:zeroOf P e=some z) (hs:cX s=some s') (hx:cX x=some x')
   (h:bI (.append i.size i.bytes s' x') tm H=some (nx,H')):fJ P w0 V H W a o H' nx:=by
 obtain⟨zv,i',hi',hzero,hzs,_,_⟩:=bQ (V:=V) hz;rw[hi]at hi';cases hi';have hrs:=aM hT hs;have hrx:=aM hT hx
 have fin:∀V' W' u v,(Builtin.append_ #[t,t] o.type #[a.eval s,a.eval x]).run P W= .ok u W'->Rep V' v u->bO w0 V V'->WR P w0 V' H' W'->fJ P w0 V H W a o H' (.val v):=by
   intro V' W' u v h1 h2 h3 h4;exact⟨V',W',u,by simp[execOp,ho,resolve,invoke,builtin,h1],h2,h3,h4⟩
 simp only[bI,eW]at h;split at h
 . rename_i sz' n cs tk sz'' m ds tk2 e1 e2;rw[e1]at hrs;have hsr:=As hW hrx e2;split at h
   . rename_i hcnd;obtain⟨hpos,hby,hmx⟩:=hcnd;by_cases hm0:m=0
     . rw[if_pos hm0]at h;subst hm0;split at h
       . rename_i g;split at h
         . rename_i hsz1;cases h;refine fin V W (a.eval s) _ ?_ hrs (.refl w0 V) hW;generalize hsv:a.eval s=u at hrs
           cases hrs with
           | slo f hn hnc hl hii hh=>
             rcases hsr with⟨hxv,_,_⟩|⟨_,hxv,_,_⟩|⟨b,off,cap,f',hxv,_⟩<;>rw[hxv]<;>
               simp[Builtin.append_,run_underlying hu,sizeOf,typeInfo,hi,Builtin.lenOf,Builtin.firstCells,loadCells,loadCellsFrom,hnc,storeCells]
           |sl f hn hc hnc hi h ht=>rcases ht with ht|⟨ht,_⟩<;>cases ht
         . cases h
       . cases h;refine fin V W (a.eval s) _ ?_ hrs (.refl w0 V) hW;generalize hsv:a.eval s=u at hrs
         cases hrs with
         | slnil _=>
           rcases hsr with⟨hxv,_,_⟩|⟨_,hxv,_,_⟩|⟨b,off,cap,f',hxv,_⟩<;>rw[hxv]<;>
             simp[Builtin.append_,run_underlying hu,sizeOf,typeInfo,hi,Builtin.lenOf,Builtin.firstCells,loadCells,loadCellsFrom]
         |sl f hn hc hnc hii hh ht=>rcases ht with ht|⟨ht,_⟩<;>cases ht
       . cases h;refine fin V W (a.eval s) _ ?_ hrs (.refl w0 V) hW;generalize hsv:a.eval s=u at hrs
         cases hrs with
         | sl f hn hc hnc hii hh ht=>
           rcases hsr with⟨hxv,_,_⟩|⟨_,hxv,_,_⟩|⟨b,off,cap,f',hxv,_⟩<;>rw[hxv]<;>
             simp[Builtin.append_,run_underlying hu,sizeOf,typeInfo,hi,Builtin.lenOf,Builtin.firstCells,loadCells,loadCellsFrom,hnc,storeCells]
       . cases h
     . rw[if_neg hm0]at h;split at h
       case isFalse=>cases h
       rename_i hcnd2;obtain⟨rfl,hds,hone⟩:=hcnd2
       rcases hsr with⟨_,rfl,_⟩|⟨_,_,rfl,_⟩|⟨b,off,capx,vs,hxv,hrv,hca⟩
       . exact absurd rfl hm0
       . exact absurd rfl hm0
       have hnr:aj V (ds.take (m*i.size)) (vs.take (m*i.size)):=hrv.take _
       have hnl:(vs.take (m*i.size)).length=m*i.size:=by rw[<-hnr.1,List.length_take];omega
       have hnews:∀w':World,w'.heap=W.heap->∀j u,(vs.take (m*i.size))[j]? =some u->w'.cell? ((⟨b,off,none⟩:Addr).add j)=some u:=by
         intro w' hw' j u hj;rw[bB];rw[List.getElem?_take]at hj;split at hj
         . have:=hca j u hj;simpa[World.cell?,hw'] using this
         . cases hj
       have hn1:=hnr.aA hone
       have fresh:n=0->tk= .z->H'=H++[.tok i.size]->fJ P w0 V H W a o H' (.val (.sl i.size m (ds.take (m*i.size)) (.own H.length))):=by
         intro hn0 htz hH;subst hn0 hH;rw[Nat.zero_add]at hby
         have key:∀cap,m<=cap->cap<=maxLen->∀cells:Array Value,cells.toList=(vs.take (m*i.size))++(Builtin.zeroCells zv.cells (cap-m)).toList→
             (Builtin.append_ #[t,t] o.type #[a.eval s,a.eval x]).run P W= .ok (.slice (some ⟨W.heap.size,0,none⟩) m cap) (W.drew.alloc (.cells cells e))->fJ P w0 V H W a o (H++[.tok i.size]) (.val (.sl i.size m (ds.take (m*i.size)) (.own H.length))):=by
           intro cap hcap hmaxc cells hcells hrun
           have hsz:cells.size=cap*i.size:=by
             rw[<-Array.length_toList,hcells,List.length_append,hnl,Array.length_toList,size_zeroCells,hzs,<-Nat.add_mul];congr 1;omega
           have htake:cells.toList.take (m*i.size)=vs.take (m*i.size):=by
             rw[hcells];exact List.take_left' hnl
           obtain⟨h1,h2,h3⟩:=hW.newRow (W1:=W.drew) rfl rfl rfl rfl rfl (e:=e) hnr (by rw[hnr.1,hnl]) hcap hmaxc hsz htake hone;exact fin _ _ _ _ hrun h3 h1 h2
         have hm63:((0+m:Nat):Int)<=9223372036854775807:=by omega
         generalize hsv:a.eval s=u at hrs key
         cases hrs with
         | slnil _=>
           have hrun:=run_append_nil (P:=P) W t o.type e i zv hu hi hzero ⟨b,off,none⟩ m capx _ hnl (hnews W rfl) (by omega) (by omega) (by omega);rw[hxv]at key;exact key _ (grownCap_ge W m 0 e) (grownCap_le_maxLen W m 0 e (by unfold maxLen;omega)) _ (by simp) hrun
         |slx _ _=>cases htz
         | sl f hn hc hnc hii hh ht=>
           rcases ht with ht|⟨ht,_⟩<;>rw[htz]at ht<;>cases ht
         |slo f hn hnc hl hii hh=>cases htz
       split at h
       . split at h
         . rename_i hn0;cases h;exact fresh hn0 rfl rfl
         . cases h
       . split at h
         . rename_i hfull;obtain⟨rfl,hcl⟩:=hfull;cases h;generalize hsv:a.eval s=u at hrs
           cases hrs with
           | sl f hn hc hnc hii hh ht=>
             rename_i b0 o0 cap0
             rcases ht with ht|⟨_,hc0,_⟩
             . cases ht
             subst hc0;obtain⟨vs0,hr0,hca0⟩:=dH hW hii hh
             have hlen0:vs0.length=cap0*i.size:=by rw[<-hr0.1];exact hcl
             have holds:∀j u,vs0[j]? =some u->W.cell? ((⟨b0,o0,none⟩:Addr).add j)=some u:=by
               intro j u hj;rw[bB];exact hca0 j u hj
             have hrun:=run_append_grow (P:=P) W t o.type e i zv hu hi hzero ⟨b0,o0,none⟩ cap0 cap0 vs0 hlen0 holds ⟨b,off,none⟩ m capx _ hnl (hnews W rfl) (by omega) (by omega) (growslice_fits (by omega) (by omega));rw[<-hxv,<-hsv]at hrun
             have hl2:(vs0++vs.take (m*i.size)).length=(cap0+m)*i.size:=by rw[List.length_append,hlen0,hnl,Nat.add_mul]
             have hcap2:=grownCap_ge W (cap0+m) cap0 e
             have hone2:aA (cs++ds.take (m*i.size))=true:=by
               rw[ba];intro x hx'
               rcases List.mem_append.1 hx' with hx'|hx'
               . obtain⟨j,hj⟩:=List.mem_iff_getElem?.1 hx';have hjl:=(List.getElem?_eq_some_iff.1 hj).1;rw[<-(hh j x hj).one];exact(hW.imm _ _ (hii j hjl)).2
               . exact(ba _).1 hone x hx'
             obtain⟨h1,h2,h3⟩:=hW.newRow (W1:=W.drew) rfl rfl rfl rfl rfl (e:=e) (sz:=i.size) (n:=cap0+m) (cap:=grownCap W (cap0+m) cap0 e) (hr0.append hnr) (by rw[(hr0.append hnr).1];exact hl2) hcap2 (grownCap_le_maxLen W (cap0+m) cap0 e (by unfold maxLen;omega))
               (cells:=vs0.toArray++(vs.take (m*i.size)).toArray++Builtin.zeroCells zv.cells (grownCap W (cap0+m) cap0 e-(cap0+m))) (by
                 simp only[Array.size_append,List.size_toArray,size_zeroCells,hzs,hlen0,hnl,<-Nat.add_mul];congr 1
                 omega) (by
                 simp only[Array.toList_append]
                 exact List.take_left' hl2) hone2
             exact fin _ _ _ _ hrun h3 h1 h2
         . cases h
       . --its own row
         rename_i g;split at h
         . rename_i sz3 hg;split at h
           . rename_i hsz3;obtain⟨rfl,rfl⟩:=hsz3;cases h;generalize hsv:a.eval s=u at hrs
             cases hrs with
             |sl f hn hc hnc hi h ht=>rcases ht with ht|⟨ht,_⟩<;>cases ht
             | slo f hn hnc hl hii hh=>
               rename_i gb cap;obtain⟨v1,e1',n1,xs,b1,hl1,hown,hob,hspare⟩:=hW.obj g _ hg;rw[hl]at hl1;cases hl1;simp only[Value.ownBlock,Option.some.injEq]at hob;subst hob
               rcases hown.2 with⟨hnil,_⟩|⟨g2,cap2,cur,hv2,hge,hcur,hncap,hcapm,hcsz,htk⟩
               . cases hnil
               cases hv2;have hlen:=hown.1
               have hbk:aK V g=some gb:=by simp[aK,hl,Value.ownBlock]
               have hxs:aj V cs xs:=by
                 refine⟨by rw[hn,hlen],fun j y u hy hu=> ?_⟩;have hj:j<cs.length:=(List.getElem?_eq_some_iff.1 hy).1;have h1:=(hW.imm _ _ (hii j hj)).1
                 have h2:cur[j]? =some (f j):=by simpa[World.cell?,hcur] using h1
                 rw[<-htk,List.getElem?_take]at hu;split at hu
                 . rw[Array.getElem?_toList,h2]at hu;cases hu;exact hh j y hy
                 . cases hu
               have hxone:∀v∈xs,v.oneCell'=true:=by
                 intro v hv;obtain⟨j,hj,rfl⟩:=List.mem_iff_getElem.1 hv
                 have hj':j<cs.length:=by rw[hxs.1];exact hj
                 have h1:=hW.imm _ _ (hii j hj')
                 have h2:cur[j]? =some (f j):=by simpa[World.cell?,hcur] using h1.1
                 have h3:xs[j]? =some (f j):=by
                   rw[<-htk,List.getElem?_take,if_pos (by rw[<-hlen];exact hj),Array.getElem?_toList,h2]
                 have e:xs[j]=f j:=by simpa[hj] using h3
                 rw[e];exact h1.2
               by_cases hroom:n+m<=cap
               . --in place
                 have hfit:n*i.size+(vs.take (m*i.size)).length<=cur.size:=by rw[hnl,hcsz,<-Nat.add_mul];exact Nat.mul_le_mul_right _ hroom
                 have hrun:=iJ (P:=P) (W:=W) (ty:=o.type) t e i hu hi gb n cap cur e1' hcur ⟨b,off,none⟩ m capx _ hnl (hnews W rfl) hn1 hroom hfit;rw[<-hxv,<-hsv,htk]at hrun;obtain⟨h1,h2,h3⟩:=s5 hW hg hl hge hcur hlen htk hcsz hcapm hspare hxs hxone hnr hnl hn1 hroom;exact fin _ _ _ _ hrun h3 h1 h2
               . --in a new row
                 have hK:=hW.kill g;have hlenH:(H.set g .dead).length=H.length:=List.length_set;have holds:∀j u,xs[j]? =some u->W.cell? ((⟨gb,0,none⟩:Addr).add j)=some u:=hown.cells (g:=gb) rfl;have hrun:=run_append_grow (P:=P) W t o.type e i zv hu hi hzero ⟨gb,0,none⟩ n cap xs hlen holds ⟨b,off,none⟩ m capx _ hnl (hnews W rfl) (by omega) (by omega) (growslice_fits (by omega) (by omega));rw[<-hxv,<-hsv]at hrun
                 have hl2:(xs++vs.take (m*i.size)).length=(n+m)*i.size:=by rw[List.length_append,hlen,hnl,Nat.add_mul]
                 have hcap2:=grownCap_ge W (n+m) cap e
                 have hone2:aA (cs++ds.take (m*i.size))=true:=by
                   rw[ba];intro x hx'
                   rcases List.mem_append.1 hx' with hx'|hx'
                   . obtain⟨j,hj⟩:=List.mem_iff_getElem?.1 hx';obtain⟨u,hu1,hu2⟩:=hxs.get hj;rw[<-hu2.one];exact hxone u (List.mem_of_getElem? hu1)
                   . exact(ba _).1 hone x hx'
                 obtain⟨h1,h2,h3⟩:=hK.newRow (W1:=W.drew) rfl rfl rfl rfl rfl (e:=e) (sz:=i.size) (n:=n+m) (cap:=grownCap W (n+m) cap e) (hxs.append hnr) (by rw[(hxs.append hnr).1];exact hl2) hcap2 (grownCap_le_maxLen W (n+m) cap e (by unfold maxLen;omega))
                   (cells:=xs.toArray++(vs.take (m*i.size)).toArray++Builtin.zeroCells zv.cells (grownCap W (n+m) cap e-(n+m))) (by
                     simp only[Array.size_append,List.size_toArray,size_zeroCells,hzs,hlen,hnl,<-Nat.add_mul];congr 1
                     omega) (by
                     simp only[Array.toList_append]
                     exact List.take_left' hl2) hone2
                 rw[hlenH]at h1 h2 h3;exact fin _ _ _ _ hrun h3 h1 h2
           . cases h
         . cases h
       . cases h
   . cases h
 . cases h
theorem mF {V:View} {zs:List AV} {zc:Array Value} (hr:aj V zs zc.toList) (n:Nat):aj V (bX n zs) (Builtin.zeroCells zc n).toList:=by
 rcases Nat.eq_zero_or_pos zc.size with h|h
 . have hl:zs.length=0:=by have:=hr.1;simp[h]at this;simp[this]
   obtain rfl:zs=[]:=List.length_eq_zero_iff.1 hl
   have:bX n ([]:List AV)=[]:=by
     induction n with
     |zero=>rfl
     |succ n ih=>rw[bX,ih];rfl
   rw[this];simp[Builtin.zeroCells,h,Array.range_zero'];exact aj.nil V
 . exact mS hr n (.inl h)
theorem eU (t tn ty e:TypeId) (i:TypeInfo) (zv:Value) (kq kn:IntKind) (ht:P.underlying t=some (.slice e)) (htn:P.underlying tn=some (.int kn)) (hi:P.info? e=some i) (hz:i.zero=some zv) (hzs:zv.cells.size=i.size)
   (g sLen sCap m:Nat) (cur:Array Value) (t':TypeId) (hg:W.heap[g]? =some (.cells cur t' (0,0))) (h1:∀u∈zv.cells.toList,u.oneCell'=true) (hm:m*i.bytes<=70368744177664) (hm2:m<=70368744177664)
   (hroom:sLen+m<=sCap) (hfit:sLen*i.size+m*i.size<=cur.size):
   (Builtin.append_ #[t,tn] ty #[.slice (some ⟨g,0,none⟩) sLen sCap,.int kq m]).run P W=
     .ok (.slice (some ⟨g,0,none⟩) (sLen+m) sCap) (W.setRow g (cur.toList.take (sLen*i.size)++(Builtin.zeroCells zv.cells m).toList++cur.toList.drop (sLen*i.size+m*i.size)).toArray):=by
 have hzl:(Builtin.zeroCells zv.cells m).toList.length=m*i.size:=by rw[Array.length_toList,size_zeroCells,hzs]
 have hone:∀u∈(Builtin.zeroCells zv.cells m).toList,u.oneCell'=true:=by
   intro u hu
   rcases Nat.eq_zero_or_pos zv.cells.size with h|h
   . have:(Builtin.zeroCells zv.cells m).toList=[]:=by simp[Builtin.zeroCells,h,Array.range_zero']
     rw[this]at hu;simp at hu
   . simp only[Builtin.zeroCells,Array.toList_map,List.mem_map]at hu;obtain⟨k,_,rfl⟩:=hu;have hk:k % zv.cells.size<zv.cells.size:=Nat.mod_lt _ h;rw[getElem!_pos zv.cells _ hk];exact h1 _ (by simp)
 have hst:=run_storeCells_at P g (sLen*i.size) t' (Builtin.zeroCells zv.cells m).toList 0 cur W hg (by rw[hzl];simpa using hfit) hone;simp only[Nat.add_zero,hzl]at hst
 have hw:IntKind.i64.wrap (m:Int)=m:=by rw[IntKind.wrap_i64];omega
 have hneg:¬((m:Int)<0):=by omega
 have h48i:¬(281474976710656<(m:Int)*(i.bytes:Int)):=by
   rw[<-Int.natCast_mul];omega
 by_cases h0:m*i.size=0
 . have hz0:(Builtin.zeroCells zv.cells m).toList=[]:=List.length_eq_zero_iff.1 (by rw[hzl];exact h0);rw[hz0]at hst ⊢;simp[Builtin.append_,run_underlying ht,run_underlying htn,sizeOf,typeInfo,zeroValue,hi,hz,asInt,asIntOf,hw,hneg,h48i,hroom,h0,Addr.add_lit]at hst ⊢;simp[hst,h0]
 . simp[Builtin.append_,run_underlying ht,run_underlying htn,sizeOf,typeInfo,zeroValue,hi,hz,asInt,asIntOf,hw,hneg,h48i,hroom,h0,Addr.add_lit,hst]
theorem WR.uA (hW:WR P w0 V H W) {W1:World} (hh:W1.heap=W.heap) (hos:W1.os=W.os) (htp:W1.tape=W.tape) (hout:W1.output=W.output) {sz n cap:Nat} {xs:List Value} {cells:Array Value} {e:TypeId} {cs:List AV} (hr:aj V cs xs)
   (hn:cs.length=n*sz) (hcap:n<=cap) (hmax:cap<=maxLen) (hcs:cells.size=cap*sz) (ht:cells.toList.take (n*sz)=xs) (hone:aA cs=true):
   let V':=V.at H.length (.row W.heap.size sz cap)
   bO w0 V V'/\WR P w0 V' (H++[.cells cs]) (W1.alloc (.cells cells e))/\Rep V' (.rsl sz H.length n) (.slice (some ⟨W.heap.size,0,none⟩) n cap):=by
 intro V';obtain⟨g1,g2⟩:=hW.tW (W1:=W1) (vs:=cells) (by rw[hn,ht];exact hr) hone e (.row W.heap.size sz cap) rfl (fun b' sz' cap' h=>by cases h;exact⟨hcs,hmax⟩) hh hos htp hout;exact⟨g1,g2,.rsl (View.b8 _ _ _) hcap⟩
theorem GL (hW:WR P w0 V H W) (hT:aj V tm a.tmps.toList) {o:Oper} {s x:Operand} {t tn e:TypeId} {kn:IntKind} {i:TypeInfo} {z:AV} {s' x':X} {nx:Nx} {H':ab}
   (ho:o.op= .call {callee:= .builtin .append,args:= #[s,x],argTypes:= #[t,tn]}) (hu:P.underlying t=some (.slice e)) (hun:P.underlying tn=some (.int kn)) (hi:P.info? e=some i) (hz:zeroOf P e=some z) (hs:cX s=some s') (hx:cX x=some x')
   (h:bI (.ue i.size i.bytes z.flat s' x') tm H=some (nx,H')):fJ P w0 V H W a o H' nx:=by
 obtain⟨zv,i',hi',hzero,hzs,hrz,_⟩:=bQ (V:=V) hz;rw[hi]at hi';cases hi';have hrs:=aM hT hs;have hrx:=aM hT hx
 have fin:∀V' W' u v,(Builtin.append_ #[t,tn] o.type #[a.eval s,a.eval x]).run P W= .ok u W'->Rep V' v u->bO w0 V V'->WR P w0 V' H' W'->fJ P w0 V H W a o H' (.val v):=by
   intro V' W' u v h1 h2 h3 h4;exact⟨V',W',u,by simp[execOp,ho,resolve,invoke,builtin,h1],h2,h3,h4⟩
 simp only[bI]at h;split at h
 case h_3=>cases h
 case h_2=>
   rename_i sz' id n m e1 hm;obtain⟨kl,_,e2,_,hzl,hzone,hmb,hm2⟩:=gz hm;rw[e1]at hrs;rw[e2]at hrx;have hxv:=bu hrx;simp only[kA]at h;split at h
   case isFalse=>cases h
   rename_i hcnd;obtain⟨hpos,hby,hmx,hm0,_,rfl,hds,hone⟩:=hcnd;split at h
   case h_2=>cases h
   rename_i cs hid;split at h
   case isFalse=>cases h
   rename_i hcl;obtain⟨hcl,hcone⟩:=hcl;have ht0:(bX m z.flat).take (m*i.size)=bX m z.flat:=List.take_of_length_le (by rw[gx,hzl];exact Nat.le_refl _);rw[ht0]at h hone;cases h;have hz1:∀u∈zv.cells.toList,u.oneCell'=true:=hrz.flat.aA hzone;have hnr:aj V (bX m z.flat) (Builtin.zeroCells zv.cells m).toList:=mF hrz.flat m
   have hnl:(Builtin.zeroCells zv.cells m).toList.length=m*i.size:=by rw[Array.length_toList,size_zeroCells,hzs]
   have hn1:=hnr.aA hone;generalize hsv:a.eval s=u at hrs
   cases hrs with
   | rsl hl hncap=>
     rename_i gb cap;obtain⟨b',cur,ty,hb',hge,hcur,hxs,hxone,himm,hrw⟩:=hW.obj id _ hid
     have hbk:aK V id=some gb:=by simp[aK,hl]
     rw[hbk]at hb';cases hb';obtain⟨hcsz,hcapm⟩:=hrw _ _ _ hl;rw[hcl]at hxs hxone
     have hlen:(cur.toList.take (n*i.size)).length=n*i.size:=by rw[<-hxs.1];exact hcl
     have hK:=hW.kill id;have hlenH:(H.set id .dead).length=H.length:=List.length_set
     have hl2:(cur.toList.take (n*i.size)++(Builtin.zeroCells zv.cells m).toList).length=(n+m)*i.size:=by rw[List.length_append,hlen,hnl,Nat.add_mul]
     have hone2:aA (cs++bX m z.flat)=true:=by
       rw[ba];intro x hx'
       rcases List.mem_append.1 hx' with hx'|hx'
       . exact(ba _).1 hcone x hx'
       . exact(ba _).1 hone x hx'
     have hcl2:(cs++bX m z.flat).length=(n+m)*i.size:=by rw[(hxs.append hnr).1,hl2]
     by_cases hroom:n+m<=cap
     . --in place
       have hfit:n*i.size+m*i.size<=cur.size:=by rw[hcsz,<-Nat.add_mul];exact Nat.mul_le_mul_right _ hroom
       have hrun:=eU (P:=P) (W:=W) t tn o.type e i zv kl kn hu hun hi hzero hzs gb n cap m cur ty hcur hz1 hmb hm2 hroom hfit;rw[<-hxv,<-hsv,<-hnl]at hrun;generalize hvs:(Builtin.zeroCells zv.cells m).toList=vs at*;have hnew:=setRow_heap W gb cur (cur.toList.take (n*i.size)++vs++cur.toList.drop (n*i.size+vs.length)).toArray ty (0,0) hcur
       have hs:Stp V W (V.at H.length (.row gb i.size cap)) (W.setRow gb (cur.toList.take (n*i.size)++vs++cur.toList.drop (n*i.size+vs.length)).toArray) (some gb):=
         ⟨View.se (hW.fresh _ (Nat.le_refl _)) _,bN W gb _,fun _ _ hp=> .inl hp⟩
       have other:∀(j:Nat) (q:av),(H.set id .dead)[j]? =some q->q.live=true->aK V j≠some gb:=by
         intro j q ho' hlo hb;rw[List.getElem?_set]at ho';split at ho'
         . split at ho'
           . cases ho';cases hlo
           . cases ho'
         . rename_i hne;exact hne (hW.inj id j _ q gb hid ho' rfl hlo hbk hb)
       have hdrop:cur.size=(cur.toList.take (n*i.size)++vs++cur.toList.drop (n*i.size+vs.length)).toArray.size:=by
         simp only[List.size_toArray,List.length_append,List.length_drop,Array.length_toList,hlen,hnl];omega
       refine fin _ _ _ _ hrun (.rsl (View.b8 V H.length (.row gb i.size cap)) hroom) (hs.grow hW.size (fun b hb=>by cases hb;exact hge)) ?_;refine hK.Ho hs (fun j q b ho' hlo hb he=> ?_) (fun b hb=>by cases hb;exact hge) (fun p v hp=> ?_) (fun j hj=> ?_) ⟨gb,_,ty, ?_,hge,hnew, ?_, ?_,fun off=>himm off,fun b' sz cap' he=> ?_⟩ (fun b hb j q ho' hlo=> ?_)
       . cases he;exact other j q ho' hlo hb
       . obtain⟨h1,h2⟩:=hW.imm p v hp;refine⟨(bN W gb _).cell h1 (fun e=> ?_),h2⟩
         have hblk:p.block=gb:=by simpa using e
         have hspot:p.spot=none:=by
           cases hsp:p.spot with
           |none=>rfl
           | some q=>
             exfalso;unfold World.cell? at h1;rw[hblk,hcur]at h1;simp[hsp]at h1
         obtain⟨pb,po,ps⟩:=p;simp only at hblk hspot;subst hblk hspot;have:=himm po;have hp':V.imm ⟨pb,po,none⟩=some v:=hp;rw[this]at hp';cases hp'
       . rw[hlenH]at hj;exact jk hW _ j hj
       . rw[hlenH,View.rD];rfl
       . rw[hcl2];show aj _ _ (List.take _ (cur.toList.take (n*i.size)++vs++cur.toList.drop (n*i.size+vs.length)))
         rw[List.take_left' hl2];exact(hxs.append hnr).mono hs.le
       . rw[hcl2];show∀v∈List.take _ (cur.toList.take (n*i.size)++vs++cur.toList.drop (n*i.size+vs.length)),v.oneCell'=true
         rw[List.take_left' hl2];intro v hv;exact(List.mem_append.1 hv).elim (hxone v) (hn1 v)
       . rw[hlenH,View.b8]at he;cases he;exact⟨by rw[<-hdrop];exact hcsz,hcapm⟩
       . rw[hlenH,View.rD]at hb;cases hb;exact other j q ho' hlo
     . --in a new row
       have holds:∀j u,(cur.toList.take (n*i.size))[j]? =some u->W.cell? ((⟨gb,0,none⟩:Addr).add j)=some u:=by
         intro j u hj;rw[bB,Nat.zero_add];rw[List.getElem?_take]at hj;split at hj
         . simp only[World.cell?,hcur];simpa using hj
         . cases hj
       have hfc:=run_firstCells_some (P:=P) W.drew i.size n ⟨gb,0,none⟩ n cap _ hlen holds;have hrun:=Lib.run_append_grow_zeros (P:=P) W t tn o.type e i zv kl kn hu hun hi hzero (some ⟨gb,0,none⟩) n cap _ hfc m (by omega) hpos (by omega) (by omega) (by omega) (growslice_fits (by omega) (by omega));rw[<-hxv,<-hsv]at hrun;have hcap2:=grownCap_ge W (n+m) cap e
       obtain⟨h1,h2,h3⟩:=hK.uA (W1:=W.drew) rfl rfl rfl rfl (e:=e) (sz:=i.size) (n:=n+m) (cap:=grownCap W (n+m) cap e) (hxs.append hnr) hcl2 hcap2 (grownCap_le_maxLen W (n+m) cap e (by unfold maxLen;omega))
         (cells:=(cur.toList.take (n*i.size)).toArray++Builtin.zeroCells zv.cells m++Builtin.zeroCells zv.cells (grownCap W (n+m) cap e-(n+m))) (by
           simp only[Array.size_append,List.size_toArray,size_zeroCells,hzs,hlen,<-Nat.add_mul];congr 1
           omega) (by
           simp only[Array.toList_append]
           exact List.take_left' hl2) hone2
       rw[hlenH]at h1 h2 h3;exact fin _ _ _ _ hrun h3 h1 h2
 rename_i sz' n cs g m e1 hm;obtain⟨kl,_,e2,_,hzl,hzone,hmb,hm2⟩:=gz hm;rw[e1]at hrs;rw[e2]at hrx;have hxv:=bu hrx;simp only[eW]at h;split at h
 case isFalse=>cases h
 rename_i hcnd;obtain⟨hpos,hby,hmx⟩:=hcnd;have hz1:∀u∈zv.cells.toList,u.oneCell'=true:=hrz.flat.aA hzone;have hnr:aj V (bX m z.flat) (Builtin.zeroCells zv.cells m).toList:=mF hrz.flat m
 have hnl:(Builtin.zeroCells zv.cells m).toList.length=m*i.size:=by rw[Array.length_toList,size_zeroCells,hzs]
 generalize hsv:a.eval s=u at hrs
 cases hrs with
 |sl f hn hc hnc hi h ht=>rcases ht with ht|⟨ht,_⟩<;>cases ht
 | slo f hn hnc hl hii hh=>
   rename_i gb cap;by_cases hm0:m=0
   . rw[if_pos hm0]at h;subst hm0;split at h
     case isFalse=>cases h
     rename_i hsz1;cases h;refine fin V W _ _ ?_ (.slo f hn hnc hl hii hh) (.refl w0 V) hW;rw[hsv,hxv];have hw:IntKind.i64.wrap 0=0:=rfl;simp[Builtin.append_,run_underlying hu,run_underlying hun,sizeOf,typeInfo,hi,asInt,asIntOf,hw,hnc,storeCells]
   . rw[if_neg hm0]at h;split at h
     case isFalse=>cases h
     rename_i hcnd2;have ht0:(bX m z.flat).take (m*i.size)=bX m z.flat:=List.take_of_length_le (by rw[gx,hzl];exact Nat.le_refl _);rw[ht0]at h hcnd2;split at h
     case h_2=>cases h
     rename_i sz3 hg;split at h
     case isFalse=>cases h
     rename_i hsz3;obtain⟨rfl,rfl⟩:=hsz3;cases h;have hone:=hcnd2.2.2;have hn1:=hnr.aA hone;obtain⟨v1,e1',n1,xs,b1,hl1,hown,hob,hspare⟩:=hW.obj g _ hg;rw[hl]at hl1;cases hl1;simp only[Value.ownBlock,Option.some.injEq]at hob;subst hob
     rcases hown.2 with⟨hnil,_⟩|⟨g2,cap2,cur,hv2,hge,hcur,hncap,hcapm,hcsz,htk⟩
     . cases hnil
     cases hv2;have hlen:=hown.1
     have hxs:aj V cs xs:=by
       refine⟨by rw[hn,hlen],fun j y u hy hu=> ?_⟩;have hj:j<cs.length:=(List.getElem?_eq_some_iff.1 hy).1;have h1:=(hW.imm _ _ (hii j hj)).1
       have h2:cur[j]? =some (f j):=by simpa[World.cell?,hcur] using h1
       rw[<-htk,List.getElem?_take]at hu;split at hu
       . rw[Array.getElem?_toList,h2]at hu;cases hu;exact hh j y hy
       . cases hu
     have hxone:∀v∈xs,v.oneCell'=true:=by
       intro v hv;obtain⟨j,hj,rfl⟩:=List.mem_iff_getElem.1 hv
       have hj':j<cs.length:=by rw[hxs.1];exact hj
       have h1:=hW.imm _ _ (hii j hj')
       have h2:cur[j]? =some (f j):=by simpa[World.cell?,hcur] using h1.1
       have h3:xs[j]? =some (f j):=by
         rw[<-htk,List.getElem?_take,if_pos (by rw[<-hlen];exact hj),Array.getElem?_toList,h2]
       have e:xs[j]=f j:=by simpa[hj] using h3
       rw[e];exact h1.2
     by_cases hroom:n+m<=cap
     . --in place
       have hfit:n*i.size+m*i.size<=cur.size:=by rw[hcsz,<-Nat.add_mul];exact Nat.mul_le_mul_right _ hroom
       have hrun:=eU (P:=P) (W:=W) t tn o.type e i zv kl kn hu hun hi hzero hzs gb n cap m cur e1' hcur hz1 hmb hm2 hroom hfit;rw[<-hxv,<-hsv,htk,<-hnl]at hrun;obtain⟨h1,h2,h3⟩:=s5 hW hg hl hge hcur hlen htk hcsz hcapm hspare hxs hxone hnr hnl hn1 hroom;exact fin _ _ _ _ hrun h3 h1 h2
     . --in a new row
       have hK:=hW.kill g;have hlenH:(H.set g .dead).length=H.length:=List.length_set;have holds:∀j u,xs[j]? =some u->W.cell? ((⟨gb,0,none⟩:Addr).add j)=some u:=hown.cells (g:=gb) rfl;have hfc:=run_firstCells_some (P:=P) W.drew i.size n ⟨gb,0,none⟩ n cap xs hlen holds;have hrun:=Lib.run_append_grow_zeros (P:=P) W t tn o.type e i zv kl kn hu hun hi hzero (some ⟨gb,0,none⟩) n cap xs hfc m (by omega) hpos (by omega) (by omega) (by omega) (growslice_fits (by omega) (by omega));rw[<-hxv,<-hsv]at hrun
       have hl2:(xs++(Builtin.zeroCells zv.cells m).toList).length=(n+m)*i.size:=by rw[List.length_append,hlen,hnl,Nat.add_mul]
       have hcap2:=grownCap_ge W (n+m) cap e
       have hone2:aA (cs++bX m z.flat)=true:=by
         rw[ba];intro x hx'
         rcases List.mem_append.1 hx' with hx'|hx'
         . obtain⟨j,hj⟩:=List.mem_iff_getElem?.1 hx';obtain⟨u,hu1,hu2⟩:=hxs.get hj;rw[<-hu2.one];exact hxone u (List.mem_of_getElem? hu1)
         . exact(ba _).1 hone x hx'
       obtain⟨h1,h2,h3⟩:=hK.newRow (W1:=W.drew) rfl rfl rfl rfl rfl (e:=e) (sz:=i.size) (n:=n+m) (cap:=grownCap W (n+m) cap e) (hxs.append hnr) (by rw[(hxs.append hnr).1];exact hl2) hcap2 (grownCap_le_maxLen W (n+m) cap e (by unfold maxLen;omega))
         (cells:=xs.toArray++Builtin.zeroCells zv.cells m++Builtin.zeroCells zv.cells (grownCap W (n+m) cap e-(n+m))) (by
           simp only[Array.size_append,List.size_toArray,size_zeroCells,hzs,hlen,<-Nat.add_mul];congr 1
           omega) (by
           simp only[Array.toList_append]
           exact List.take_left' hl2) hone2
       rw[hlenH]at h1 h2 h3;exact fin _ _ _ _ hrun h3 h1 h2
theorem yf (hW:WR P w0 V H W) (hT:aj V tm a.tmps.toList) {o:Oper} {s x:Operand} {t e:TypeId} {i:TypeInfo} {z:AV} {s' x':X} {nx:Nx} {H':ab}
   (ho:o.op= .call {callee:= .builtin .append,args:= #[s,x],argTypes:= #[t,t]}) (hu:P.underlying t=some (.slice e)) (hi:P.info? e=some i) (hz:zeroOf P e=some z) (hs:cX s=some s') (hx:cX x=some x')
   (h:bI (.eY i.size i.bytes s' x') tm H=some (nx,H')):fJ P w0 V H W a o H' nx:=by
 obtain⟨zv,i',hi',hzero,hzs,_,_⟩:=bQ (V:=V) hz;rw[hi]at hi';cases hi';have hrs:=aM hT hs;have hrx:=aM hT hx
 have fin:∀V' W' u v,(Builtin.append_ #[t,t] o.type #[a.eval s,a.eval x]).run P W= .ok u W'->Rep V' v u->bO w0 V V'->WR P w0 V' H' W'->fJ P w0 V H W a o H' (.val v):=by
   intro V' W' u v h1 h2 h3 h4;exact⟨V',W',u,by simp[execOp,ho,resolve,invoke,builtin,h1],h2,h3,h4⟩
 have news:∀{sz2 m:Nat} {ds:List AV} {tk:Tk},x'.ev tm= .sl sz2 m ds tk->m≠0->m*i.size<=ds.length->aA (ds.take (m*i.size))=true->sz2=i.size→
     ∃ (b off capx:Nat) (vs:List Value),a.eval x= .slice (some ⟨b,off,none⟩) m capx/\aj V (ds.take (m*i.size)) vs/\vs.length=m*i.size/\(∀v∈vs,v.oneCell'=true)∧
       ∀w':World,w'.heap=W.heap->∀j u,vs[j]? =some u->w'.cell? ((⟨b,off,none⟩:Addr).add j)=some u:=by
   intro sz2 m ds tk he hm0 hds hone hsz;rw[he]at hrx
   rcases gB hrx with⟨_,rfl,_⟩|⟨_,_,rfl,_⟩|⟨b,off,capx,fx,hxv,k1,k2,k3,k4,k5⟩
   . exact absurd rfl hm0
   . exact absurd rfl hm0
   obtain⟨vs,hrv,hca⟩:=dH hW k4 k5;have hnr:aj V (ds.take (m*i.size)) (vs.take (m*i.size)):=hrv.take _;refine⟨b,off,capx,vs.take (m*i.size),hxv,hnr,by rw[<-hnr.1,List.length_take];omega,hnr.aA hone,fun w' hw' j u hj=> ?_⟩;rw[bB];rw[List.getElem?_take]at hj;split at hj
   . have:=hca j u hj;simpa[World.cell?,hw'] using this
   . cases hj
 simp only[bI,kA]at h;split at h
 . rename_i sz' id n sz'' m ds tk e1 e2;split at h
   case isFalse=>cases h
   rename_i hcnd;obtain⟨hpos,hby,hmx,hm0,hsz2,rfl,hds,hone⟩:=hcnd;split at h
   case h_2=>cases h
   rename_i cs hid;split at h
   case isFalse=>cases h
   rename_i hcl;obtain⟨hcl,hcone⟩:=hcl;cases h;obtain⟨b,off,capx,vs,hxv,hnr,hnl,hn1,hnews⟩:=news e2 hm0 hds hone hsz2;rw[e1]at hrs;generalize hsv:a.eval s=u at hrs
   cases hrs with
   | rsl hl hncap=>
     rename_i gb cap;obtain⟨b',cur,ty,hb',hge,hcur,hxs,hxone,himm,hrw⟩:=hW.obj id _ hid
     have hbk:aK V id=some gb:=by simp[aK,hl]
     rw[hbk]at hb';cases hb';obtain⟨hcsz,hcapm⟩:=hrw _ _ _ hl;rw[hcl]at hxs hxone
     have hlen:(cur.toList.take (n*i.size)).length=n*i.size:=by rw[<-hxs.1];exact hcl
     have hK:=hW.kill id;have hlenH:(H.set id .dead).length=H.length:=List.length_set
     have hl2:(cur.toList.take (n*i.size)++vs).length=(n+m)*i.size:=by rw[List.length_append,hlen,hnl,Nat.add_mul]
     have hone2:aA (cs++ds.take (m*i.size))=true:=by
       rw[ba];intro x hx'
       rcases List.mem_append.1 hx' with hx'|hx'
       . exact(ba _).1 hcone x hx'
       . exact(ba _).1 hone x hx'
     have hcl2:(cs++ds.take (m*i.size)).length=(n+m)*i.size:=by rw[(hxs.append hnr).1,hl2]
     by_cases hroom:n+m<=cap
     . --in place
       have hfit:n*i.size+vs.length<=cur.size:=by rw[hnl,hcsz,<-Nat.add_mul];exact Nat.mul_le_mul_right _ hroom
       have hrun:=iJ (P:=P) (W:=W) (ty:=o.type) t e i hu hi gb n cap cur ty hcur ⟨b,off,none⟩ m capx vs hnl (hnews W rfl) hn1 hroom hfit;rw[<-hxv,<-hsv]at hrun;have hnew:=setRow_heap W gb cur (cur.toList.take (n*i.size)++vs++cur.toList.drop (n*i.size+vs.length)).toArray ty (0,0) hcur
       have hs:Stp V W (V.at H.length (.row gb i.size cap)) (W.setRow gb (cur.toList.take (n*i.size)++vs++cur.toList.drop (n*i.size+vs.length)).toArray) (some gb):=
         ⟨View.se (hW.fresh _ (Nat.le_refl _)) _,bN W gb _,fun _ _ hp=> .inl hp⟩
       have other:∀(j:Nat) (q:av),(H.set id .dead)[j]? =some q->q.live=true->aK V j≠some gb:=by
         intro j q ho' hlo hb;rw[List.getElem?_set]at ho';split at ho'
         . split at ho'
           . cases ho';cases hlo
           . cases ho'
         . rename_i hne;exact hne (hW.inj id j _ q gb hid ho' rfl hlo hbk hb)
       have hdrop:cur.size=(cur.toList.take (n*i.size)++vs++cur.toList.drop (n*i.size+vs.length)).toArray.size:=by
         simp only[List.size_toArray,List.length_append,List.length_drop,Array.length_toList,hlen,hnl];rw[hnl]at hfit;omega
       refine fin _ _ _ _ hrun (.rsl (View.b8 V H.length (.row gb i.size cap)) hroom) (hs.grow hW.size (fun b hb=>by cases hb;exact hge)) ?_;refine hK.Ho hs (fun j q b ho' hlo hb he=> ?_) (fun b hb=>by cases hb;exact hge) (fun p v hp=> ?_) (fun j hj=> ?_) ⟨gb,_,ty, ?_,hge,hnew, ?_, ?_,fun off=>himm off,fun b' sz cap' he=> ?_⟩ (fun b hb j q ho' hlo=> ?_)
       . cases he;exact other j q ho' hlo hb
       . obtain⟨h1,h2⟩:=hW.imm p v hp;refine⟨(bN W gb _).cell h1 (fun e=> ?_),h2⟩
         have hblk:p.block=gb:=by simpa using e
         have hspot:p.spot=none:=by
           cases hsp:p.spot with
           |none=>rfl
           | some q=>
             exfalso;unfold World.cell? at h1;rw[hblk,hcur]at h1;simp[hsp]at h1
         obtain⟨pb,po,ps⟩:=p;simp only at hblk hspot;subst hblk hspot;have:=himm po;have hp':V.imm ⟨pb,po,none⟩=some v:=hp;rw[this]at hp';cases hp'
       . rw[hlenH]at hj;exact jk hW _ j hj
       . rw[hlenH,View.rD];rfl
       . rw[hcl2];show aj _ _ (List.take _ (cur.toList.take (n*i.size)++vs++cur.toList.drop (n*i.size+vs.length)))
         rw[List.take_left' hl2];exact(hxs.append hnr).mono hs.le
       . rw[hcl2];show∀v∈List.take _ (cur.toList.take (n*i.size)++vs++cur.toList.drop (n*i.size+vs.length)),v.oneCell'=true
         rw[List.take_left' hl2];intro v hv;exact(List.mem_append.1 hv).elim (hxone v) (hn1 v)
       . rw[hlenH,View.b8]at he;cases he;exact⟨by rw[<-hdrop];exact hcsz,hcapm⟩
       . rw[hlenH,View.rD]at hb;cases hb;exact other j q ho' hlo
     . --in a new row
       have holds:∀j u,(cur.toList.take (n*i.size))[j]? =some u->W.cell? ((⟨gb,0,none⟩:Addr).add j)=some u:=by
         intro j u hj;rw[bB,Nat.zero_add];rw[List.getElem?_take]at hj;split at hj
         . simp only[World.cell?,hcur];simpa using hj
         . cases hj
       have hrun:=run_append_grow (P:=P) W t o.type e i zv hu hi hzero ⟨gb,0,none⟩ n cap _ hlen holds ⟨b,off,none⟩ m capx vs hnl (hnews W rfl) (by omega) (by omega) (growslice_fits (by omega) (by omega));rw[<-hxv,<-hsv]at hrun;have hcap2:=grownCap_ge W (n+m) cap e
       obtain⟨h1,h2,h3⟩:=hK.uA (W1:=W.drew) rfl rfl rfl rfl (e:=e) (sz:=i.size) (n:=n+m) (cap:=grownCap W (n+m) cap e) (hxs.append hnr) hcl2 hcap2 (grownCap_le_maxLen W (n+m) cap e (by unfold maxLen;omega))
         (cells:=(cur.toList.take (n*i.size)).toArray++vs.toArray++Builtin.zeroCells zv.cells (grownCap W (n+m) cap e-(n+m))) (by
           simp only[Array.size_append,List.size_toArray,size_zeroCells,hzs,hlen,hnl,<-Nat.add_mul];congr 1
           omega) (by
           simp only[Array.toList_append]
           exact List.take_left' hl2) hone2
       rw[hlenH]at h1 h2 h3;exact fin _ _ _ _ hrun h3 h1 h2
 . rename_i sz' n cs tk0 sz'' m ds tk e1 e2;split at h
   case isFalse=>
     split at h
     case isFalse=>cases h
     rename_i hcnd;obtain⟨hpos,hby,hmx,hm0,hn0,htk0,rfl,hcl,hsz2,hds,hone⟩:=hcnd;cases h;obtain⟨b,off,capx,vs,hxv,hnr,hnl,hn1,hnews⟩:=news e2 hm0 hds hone hsz2;rw[e1]at hrs;generalize hsv:a.eval s=u at hrs
     cases hrs with
     |slnil _=>exact absurd rfl hn0
     |slx _ _=>cases htk0
     | sl f hn hc hnc hii hh ht=>
       rename_i b0 o0 cap0
       rcases ht with ht|⟨_,hc0,_⟩
       . rw[ht]at htk0;cases htk0
       subst hc0;obtain⟨vs0,hr0,hca0⟩:=dH hW hii hh
       have hlen0:vs0.length=cap0*i.size:=by rw[<-hr0.1];exact hcl
       have holds:∀j u,vs0[j]? =some u->W.cell? ((⟨b0,o0,none⟩:Addr).add j)=some u:=by
         intro j u hj;rw[bB];exact hca0 j u hj
       have hrun:=run_append_grow (P:=P) W t o.type e i zv hu hi hzero ⟨b0,o0,none⟩ cap0 cap0 vs0 hlen0 holds ⟨b,off,none⟩ m capx vs hnl (hnews W rfl) (by omega) (by omega) (growslice_fits (by omega) (by omega));rw[<-hxv,<-hsv]at hrun
       have hl2:(vs0++vs).length=(cap0+m)*i.size:=by rw[List.length_append,hlen0,hnl,Nat.add_mul]
       have hcap2:=grownCap_ge W (cap0+m) cap0 e
       have hone2:aA (cs++ds.take (m*i.size))=true:=by
         rw[ba];intro x hx'
         rcases List.mem_append.1 hx' with hx'|hx'
         . obtain⟨j,hj⟩:=List.mem_iff_getElem?.1 hx';have hjl:=(List.getElem?_eq_some_iff.1 hj).1;rw[<-(hh j x hj).one];exact(hW.imm _ _ (hii j hjl)).2
         . exact(ba _).1 hone x hx'
       obtain⟨h1,h2,h3⟩:=hW.uA (W1:=W.drew) rfl rfl rfl rfl (e:=e) (sz:=i.size) (n:=cap0+m) (cap:=grownCap W (cap0+m) cap0 e) (hr0.append hnr) (by rw[(hr0.append hnr).1];exact hl2) hcap2 (grownCap_le_maxLen W (cap0+m) cap0 e (by unfold maxLen;omega))
         (cells:=vs0.toArray++vs.toArray++Builtin.zeroCells zv.cells (grownCap W (cap0+m) cap0 e-(cap0+m))) (by
           simp only[Array.size_append,List.size_toArray,size_zeroCells,hzs,hlen0,hnl,<-Nat.add_mul];congr 1
           omega) (by
           simp only[Array.toList_append]
           exact List.take_left' hl2) hone2
       exact fin _ _ _ _ hrun h3 h1 h2
     |slo f hn hnc hl hii hh=>cases htk0
   rename_i hcnd;obtain⟨hpos,hby,hmx,hm0,rfl,htk0,hsz2,hds,hone⟩:=hcnd;cases h;obtain⟨b,off,capx,vs,hxv,hnr,hnl,hn1,hnews⟩:=news e2 hm0 hds hone hsz2;rw[e1]at hrs
   have hcl:(ds.take (m*i.size)).length=m*i.size:=by rw[hnr.1,hnl]
   have key:∀cells:Array Value,cells=vs.toArray++Builtin.zeroCells zv.cells (grownCap W m 0 e-m)->(Builtin.append_ #[t,t] o.type #[a.eval s,a.eval x]).run P W= .ok (.slice (some ⟨W.heap.size,0,none⟩) m (grownCap W m 0 e)) (W.drew.alloc (.cells cells e))→
       fJ P w0 V H W a o (H++[.cells (ds.take (m*i.size))]) (.val (.rsl i.size H.length m)):=by
     intro cells hce hrun
     obtain⟨h1,h2,h3⟩:=hW.uA (W1:=W.drew) rfl rfl rfl rfl (e:=e) (sz:=i.size) (n:=m) (cap:=grownCap W m 0 e) hnr hcl (grownCap_ge W m 0 e) (grownCap_le_maxLen W m 0 e (by unfold maxLen;omega))
       (cells:=cells) (by
         subst hce;have:=grownCap_ge W m 0 e;simp only[Array.size_append,List.size_toArray,size_zeroCells,hzs,hnl,<-Nat.add_mul];congr 1
         omega) (by
         subst hce;simp only[Array.toList_append]
         exact List.take_left' hnl) hone
     exact fin _ _ _ _ hrun h3 h1 h2
   generalize hsv:a.eval s=u at hrs
   cases hrs with
   | slnil _=>
     have hrun:=run_append_nil (P:=P) W t o.type e i zv hu hi hzero ⟨b,off,none⟩ m capx vs hnl (hnews W rfl) (by omega) (by omega) (by omega);rw[<-hxv,<-hsv]at hrun;exact key _ rfl hrun
   |slx _ _=>cases htk0
   | sl f hn hc hnc hii hh ht=>
     rename_i b0 o0 cap0
     rcases ht with ht|⟨_,hc0,_⟩
     . rw[ht]at htk0;cases htk0
     subst hc0;have hfit:=growslice_fits (old:=0) (need:=0+m) (bytes:=i.bytes) (by omega) (by rw[Nat.zero_add];omega)
     have hm63:((0+m:Nat):Int)<=9223372036854775807:=by omega
     have hrun:=run_append_grow (P:=P) W t o.type e i zv hu hi hzero ⟨b0,o0,none⟩ 0 0 [] (by simp) (by simp) ⟨b,off,none⟩ m capx vs hnl (hnews W rfl) (by omega) hm63 hfit;simp only[Nat.zero_add]at hrun;rw[<-hxv,<-hsv]at hrun;exact key _ (by simp) hrun
   |slo f hn hnc hl hii hh=>cases htk0
 . cases h
theorem WR.DD (hW:WR P w0 V H W) {id b off:Nat} {cs xs:List AV} {us:List Value} (hcs:H[id]? =some (.cells cs)) (hl:aK V id=some b) (hr:aj V xs us) (h1x:aA xs=true) (hfit0:off+xs.length<=cs.length):
   ∃W',(storeCells ⟨b,off,none⟩ us 0).run P W= .ok () W'/\WR P w0 V (H.set id (.cells (cs.take off++xs++cs.drop (off+xs.length)))) W':=by
 obtain⟨b',vs,ty,hb',hge,hh,hrl,hone,himm,hrw⟩:=hW.obj id _ hcs;rw[hl]at hb';cases hb';have hsz:us.length=xs.length:=hr.1.symm
 have hlen:cs.length<=vs.size:=by have:=hrl.1;simp at this;omega
 have h1:=hr.aA h1x
 have hfit:off+0+us.length<=vs.size:=by omega
 have hst:=run_storeCells_at P b off ty us 0 vs W hh hfit h1;simp only[Nat.add_zero,hsz]at hst;have e1:vs.toList=vs.toList.take cs.length++vs.toList.drop cs.length:=(List.take_append_drop _ _).symm;have htl:(vs.toList.take cs.length).length=cs.length:=hrl.1.symm
 have e2:vs.toList.take off=(vs.toList.take cs.length).take off:=by rw[List.take_take];congr 1;omega
 have e3:vs.toList.drop (off+xs.length)=(vs.toList.take cs.length).drop (off+xs.length)++vs.toList.drop cs.length:=by
   conv=>lhs;rw[e1]
   rw[List.drop_append_of_le_length (by omega)]
 have h3:=((hrl.take off).append hr).append (hrl.drop (off+xs.length));refine⟨_,hst,hW.upd hcs rfl hl (bN W b _) (fun p v hp=> ?_) ⟨b,_,ty,hl,hge,setRow_heap W b vs _ ty (0,0) hh, ?_, ?_,himm,fun b' sz cap he=> ?_⟩ (fun _=>trivial)⟩
 . have hne:p.block≠b:=fun e=>by
     have hcell:=(hW.imm p v hp).1
     have hspot:p.spot=none:=by
       cases hsp:p.spot with
       |none=>rfl
       | some q=>
         exfalso;unfold World.cell? at hcell;split at hcell
         . simp[hsp]at hcell
         . cases hcell
     have:V.imm ⟨b,p.off,none⟩=some v:=by rw[<-hp,<-e,<-hspot]
     rw[himm]at this;cases this
   exact((bN W b _).cell (hW.imm p v hp).1 (by simpa using hne))
 . show aj V _ (List.take _ (vs.toList.take off++us++vs.toList.drop (off+xs.length)))
   rw[e3,e2,<-List.append_assoc,List.take_left' h3.1.symm];exact h3
 . show∀v∈List.take _ (vs.toList.take off++us++vs.toList.drop (off+xs.length)),v.oneCell'=true
   rw[e3,e2,<-List.append_assoc,List.take_left' h3.1.symm];intro v hv;simp only[List.mem_append]at hv
   rcases hv with(hv|hv)|hv
   . exact hone v (List.mem_of_mem_take hv)
   . exact h1 v hv
   . exact hone v (List.mem_of_mem_drop hv)
 . have:=hrw b' sz cap he;refine⟨?_,this.2⟩;rw[<-this.1];simp;omega
theorem Ix (hW:WR P w0 V H W) (hT:aj V tm a.tmps.toList) {o:Oper} {args:Array Operand} {tys:Array TypeId} {nx:Nx} {H':ab} {ao:AOp}
   (ho:o.op= .call {callee:= .builtin .copy,args:=args,argTypes:=tys}) (hc:cOp P o=some ao) (h:bI ao tm H=some (nx,H')):fJ P w0 V H W a o H' nx:=by
 simp only[cOp,ho,cc]at hc;split at hc
 case h_2=>cases hc
 rename_i x y t t2 hargs htys;split at hc
 case isFalse=>cases hc
 rename_i htt;subst htt;split at hc
 case h_2=>cases hc
 rename_i e he;split at hc
 case h_2=>cases hc
 rename_i i x' y' hi hx hy;cases hc
 have ha:args= #[x,y]:=by rw[<-Array.toList_inj];exact hargs
 have ht:tys= #[t,t]:=by rw[<-Array.toList_inj];exact htys
 subst ha ht;have hu:=dI he;have hrx:=aM hT hx;have hry:=aM hT hy;have hun:(underlying t).run P W= .ok (.slice e) W:=run_underlying hu W;simp only[bI]at h;split at h
 case h_2=>cases h
 rename_i sz' id off n sz'' m ds tk e1 e2;rw[e1]at hrx;have hsr:=As hW hry e2;split at h
 case h_2=>cases h
 rename_i cs hcs;generalize hv:a.eval x=u at hrx
 cases hrx with
 | msl hl hnc=>
   rename_i b cap;split at h
   . rename_i hm0;subst hm0;cases h
     have:(Builtin.copy_ #[t,t] o.type #[a.eval x,a.eval y]).run P W= .ok (.int .i64 0) W:=by
       rw[hv]
       rcases hsr with⟨hxv,_,_⟩|⟨_,hxv,_,_⟩|⟨b2,off2,cap2,f',hxv,_⟩<;>rw[hxv]<;>
         simp[Builtin.copy_,hun,sizeOf,typeInfo,hi,Builtin.lenOf,Builtin.firstCells,loadCells,loadCellsFrom,storeCells,goInt]
     exact⟨V,W,.int .i64 0,by simp[execOp,ho,resolve,invoke,builtin,this],.int _ _,.refl w0 V,hW⟩
   rename_i hm0;split at h
   case isFalse=>cases h
   rename_i hcnd;obtain⟨rfl,rfl,hds,hle,hone⟩:=hcnd;cases h
   rcases hsr with⟨_,rfl,_⟩|⟨_,_,rfl,_⟩|⟨b2,off2,capx,vs,hxv,hrv,hca⟩
   . exact absurd rfl hm0
   . exact absurd rfl hm0
   have hnr:aj V (ds.take (min m n*i.size)) (vs.take (min m n*i.size)):=hrv.take _
   have hdl:(ds.take (min m n*i.size)).length=min m n*i.size:=by rw[List.length_take];omega
   have hnl:(vs.take (min m n*i.size)).length=min m n*i.size:=by rw[<-hnr.1,hdl]
   have hnews:∀j u,(vs.take (min m n*i.size))[j]? =some u->W.cell? ((⟨b2,off2,none⟩:Addr).add j)=some u:=by
     intro j u hj;rw[bB];rw[List.getElem?_take]at hj;split at hj
     . exact hca j u hj
     . cases hj
   have hf:=run_firstCells_some (P:=P) W i.size (min m n) ⟨b2,off2,none⟩ m capx _ hnl hnews;obtain⟨W',hst,hW'⟩:=hW.DD (P:=P) (off:=off) (xs:=ds.take (min m n*i.size)) (us:=vs.take (min m n*i.size)) hcs hl hnr hone (by rw[hdl];exact hle);rw[hdl]at hW'
   have:(Builtin.copy_ #[t,t] o.type #[a.eval x,a.eval y]).run P W= .ok (.int .i64 (min m n:Nat)) W':=by
     rw[hv,hxv];simp[Builtin.copy_,hun,sizeOf,typeInfo,hi,Builtin.lenOf,hf,hst,goInt]
   exact⟨V,W',.int .i64 (min m n:Nat),by simp[execOp,ho,resolve,invoke,builtin,this],.int _ _,.refl w0 V,hW'⟩
end Go.Am
