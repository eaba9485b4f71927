/- THE OPERATIONS THAT ACT, but append: new variables, stores, maps, calls, panics, deferred calls. No condition. -/
import Derived.Test.YtephfpdnhdpmkaaGreatDoorAmOps3
open Int (reduceEq)
open Nat (reduceEqDiff reduceAdd reduceMul reduceLT reduceLeDiff)
set_option linter.all false
namespace Go.Am
open Go Go.RowKit
set_option linter.unusedSectionVars false
variable [dy]
variable {P:Program} {w0:World} {V:View} {H:ab} {W:World} {tm:List AV} {a:Act}
def View.at (V:View) (id:Nat) (l:Loc):View:={V with loc:=fun i=>if i=id then some l else V.loc i}
theorem View.se {id:Nat} (h:V.loc id=none) (l:Loc):V.Le (V.at id l):=⟨fun _ _ h=>h,fun i k hk=>by
 show(if i=id then some l else V.loc i)=some k
 by_cases hi:i=id
 . subst hi;rw[h]at hk;cases hk
 . rw[if_neg hi];exact hk⟩
theorem View.iv (V:View) (id b:Nat):aK (V.at id (.blk b)) id=some b:=by simp[aK,View.at]
theorem View.b8 (V:View) (id:Nat) (l:Loc):(V.at id l).loc id=some l:=by simp[View.at]
theorem WR.push (hW:WR P w0 V H W) {V':View} {W':World} {o:av} (hs:Stp V W V' W' none) (hi:∀p v,V'.imm p=some v->W'.cell? p=some v/\v.oneCell'=true)
   (hf:∀id,H.length<id->V'.loc id=none) (ho:mU P w0 V' W' H.length o) (hb:∀b,aK V' H.length=some b->W.heap.size<=b):WR P w0 V' (H++[o]) W':=by
 refine⟨Below.ik hW.below hs.grown (by simp),hi,fun id o' ho'=> ?_, ?_,fun id hid=>hf id (by simp at hid;omega),hW.mz⟩
 . by_cases hid:id<H.length
   . rw[List.getElem?_append_left hid]at ho';exact(hW.obj id o' ho').kept hs (by simp)
   . rw[List.getElem?_append_right (by omega)]at ho'
     have:id=H.length:=by
       have:=(List.getElem?_eq_some_iff.1 ho').1;simp at this;omega
     subst this;simp at ho';subst ho';exact ho
 . intro id id' o1 o2 b h1 h2 l1 l2 b1 b2
   have old:∀i o,(H++[o])[i]? =some o->i<H.length->H[i]? =some o:=fun i o h hi=>by rwa[List.getElem?_append_left hi]at h
   have back:∀i o',(H++[o])[i]? =some o'->o'.live=true->i<H.length->aK V' i=some b->aK V i=some b/\b<W.heap.size:=by
     intro i o' hio hlo hi hbi;rw[List.getElem?_append_left hi]at hio;obtain⟨c,hc,_,hlt⟩:=(hW.obj i o' hio).blk hlo;have:=fX hs.le hc;rw[hbi]at this;cases this;exact⟨hc,hlt⟩
   have lt:∀i o',(H++[o])[i]? =some o'->i<H.length∨i=H.length:=by
     intro i o' h;have:=(List.getElem?_eq_some_iff.1 h).1;simp at this;omega
   rcases lt _ _ h1 with k1|k1<;>rcases lt _ _ h2 with k2|k2
   . have e1:=back _ _ h1 l1 k1 b1;have e2:=back _ _ h2 l2 k2 b2;rw[List.getElem?_append_left k1]at h1;rw[List.getElem?_append_left k2]at h2;exact hW.inj id id' o1 o2 b h1 h2 l1 l2 e1.1 e2.1
   . have e1:=back _ _ h1 l1 k1 b1;subst k2;have:=hb b b2;omega
   . have e2:=back _ _ h2 l2 k2 b2;subst k1;have:=hb b b1;omega
   . omega
theorem WR.upd (hW:WR P w0 V H W) {W':World} {id b:Nat} {o o':av} (ho:H[id]? =some o) (hl:o.live=true) (hb:aK V id=some b) (hg:W.grownBy W' (some b))
   (hi:∀p v,V.imm p=some v->W'.cell? p=some v) (hn:mU P w0 V W' id o') (_hl':o'.live=true->True):WR P w0 V (H.set id o') W':=by
 have hs:Stp V W V W' (some b):=⟨.refl V,hg,fun _ _ h=> .inl h⟩;obtain⟨c,hc,hge,hlt⟩:=(hW.obj id o ho).blk hl;rw[hb]at hc;cases hc;have hid:id<H.length:=(List.getElem?_eq_some_iff.1 ho).1
 have get:∀i x,(H.set id o')[i]? =some x->(i=id/\x=o')∨(i≠id/\H[i]? =some x):=by
   intro i x hx;rw[List.getElem?_set]at hx;by_cases hi:id=i
   . subst hi;simp[hid]at hx;exact .inl ⟨rfl,hx.symm⟩
   . rw[if_neg hi]at hx;exact .inr ⟨fun e=>hi e.symm,hx⟩
 refine⟨Below.ik hW.below hg (fun k hk=>by cases hk;exact hge),fun p v hp=>⟨hi p v hp,(hW.imm p v hp).2⟩,fun i x hx=> ?_, ?_,fun i hi=>hW.fresh i (by simpa using hi),hW.mz⟩
 . rcases get i x hx with⟨rfl,rfl⟩|⟨hne,hx⟩
   . exact hn
   . exact(hW.obj i x hx).kept hs (fun hlx c hc hcb=>by
       cases hcb
       exact hne (hW.inj i id x o b hx ho hlx hl hc hb))
 . intro i j x y c hx hy hlx hly hbx hby
   rcases get i x hx with⟨e1,_⟩|⟨hne,hx'⟩<;>rcases get j y hy with⟨e2,_⟩|⟨hne',hy'⟩
   . rw[e1,e2]
   . subst e1;rw[hb]at hbx;cases hbx;exact(hW.inj j i y o b hy' ho hly hl hby hb).symm
   . subst e2;rw[hb]at hby;cases hby;exact hW.inj i j x o b hx' ho hlx hl hbx hb
   . exact hW.inj i j x y c hx' hy' hlx hly hbx hby
def DfR (V:View):ADf->Deferred->Prop
 | .call f args,d=>∃caps,d.target= .fn (.func f) caps/\aj V args (d.args++caps).toList
 | .mark id,d=>∃b,d.target= .collected b/\V.loc id=some (.blk b)
theorem DfR.mono {V V':View} (hV:V.Le V') {d:ADf} {e:Deferred} (h:DfR V d e):DfR V' d e:=by
 cases d with
 |call f args=>obtain⟨caps,h1,h2⟩:=h;exact⟨caps,h1,h2.mono hV⟩
 |mark id=>obtain⟨b,h1,h2⟩:=h;exact⟨b,h1,hV.loc _ _ h2⟩
def fJ (P:Program) (w0:World) (V:View) (H:ab) (W:World) (a:Act) (o:Oper) (H':ab):Nx->Prop
 | .val v=>∃V' W' u,(execOp a.eval o).run P W= .ok (.value u) W'/\Rep V' v u/\bO w0 V V'/\WR P w0 V' H' W'
 | .skip=>∃V' W',(execOp a.eval o).run P W= .ok .skip W'/\bO w0 V V'/\WR P w0 V' H' W'
 | .dO _ f args=>H'=H/\∃us:Array Value,(execOp a.eval o).run P W=(callFunc f us).run P W/\aj V args us.toList
 | .enter f args=>H'=H/\∃us:Array Value,(execOp a.eval o).run P W=(callFunc f us).run P W/\aj V args us.toList
 | .yield id args=>H'=H/\∃(b:Nat) (us:Array Value),(execOp a.eval o).run P W=(Instr.yield b us).run P W/\V.loc id=some (.blk b)/\aj V args us.toList
 | .pan v=>H'=H/\∃u,(execOp a.eval o).run P W= .halt (.panic u) W/\Rep V v u
 | .dfr d=>H'=H/\∃e c,o.op= .defer c/\(resolve a.eval c o.type).run P W= .ok e W/\(execOp a.eval o).run P W= .ok (.defer e) W/\DfR V d e
 | .fy=>H'=H/\(execOp a.eval o).run P W= .ok .recover W
theorem jP (hW:WR P w0 V H W) (o:Obj):∀p v,V.imm p=some v->(W.alloc o).cell? p=some v/\v.oneCell'=true:=fun p v hp=>
 ⟨by rw[World.cell?_alloc_lt W o p (hW.cV p v hp)];exact(hW.imm p v hp).1,(hW.imm p v hp).2⟩
theorem uM {o:Obj} (hW:WR P w0 V H W) (l:Loc):Stp V W (V.at H.length l) (W.alloc o) none:=
 ⟨View.se (hW.fresh _ (Nat.le_refl _)) l,World.grownBy_alloc W o none,fun _ _ hp=> .inl hp⟩
theorem jk (hW:WR P w0 V H W) (l:Loc):∀id,H.length<id->(V.at H.length l).loc id=none:=fun id hid=>by
 show(if id=H.length then some l else V.loc id)=none
 rw[if_neg (by omega)];exact hW.fresh id (by omega)
def Loc.Ki:Loc->Option Nat
 | .blk b=>some b
 | .own v=>v.ownBlock
 | .row b _ _=>some b
theorem View.rD (V:View) (id:Nat) (l:Loc):aK (V.at id l) id=l.Ki:=by
 unfold aK;rw[View.b8]
 cases l<;>rfl
theorem WR.tW (hW:WR P w0 V H W) {cs:List AV} {vs:Array Value} (hr:aj V cs (vs.toList.take cs.length)) (h1:aA cs=true) (t:TypeId) (l:Loc) (hl:l.Ki=some W.heap.size)
   (hrow:∀b' sz cap,l= .row b' sz cap->vs.size=cap*sz/\cap<=maxLen) {W1:World} (hh:W1.heap=W.heap) (hos:W1.os=W.os) (htp:W1.tape=W.tape) (hout:W1.output=W.output):
   bO w0 V (V.at H.length l)/\WR P w0 (V.at H.length l) (H++[.cells cs]) (W1.alloc (.cells vs t)):=by
 have hg:W.grownBy (W1.alloc (.cells vs t)) none:=⟨by simp[World.alloc,hos],by simp[World.alloc,htp],by simp[World.alloc,hout],by simp[hh],fun k hk _=>by rw[Below.heap_alloc W1 _ k (by rw[hh];omega),hh]⟩;have hs:Stp V W (V.at H.length l) (W1.alloc (.cells vs t)) none:=⟨View.se (hW.fresh _ (Nat.le_refl _)) l,hg,fun _ _ hp=> .inl hp⟩
 have hnew:(W1.alloc (.cells vs t)).heap[W.heap.size]? =some (.cells vs t (0,0)):=by rw[<-hh];exact heap_alloc_new W1 _
 refine⟨hs.grow hW.size (by simp),hW.push hs (fun p v hp=>⟨hg.cell (hW.imm p v hp).1 (by simp),(hW.imm p v hp).2⟩) (jk hW _) ⟨W.heap.size,vs,t,by rw[View.rD,hl],hW.size,hnew,hr.mono hs.le,hr.aA h1,fun off=> ?_,fun b' sz cap he=> ?_⟩ (fun b hb=> ?_)⟩
 . cases hp:(V.at H.length l).imm ⟨W.heap.size,off,none⟩with
   |none=>rfl
   |some v=>exact absurd (hW.cV _ _ hp) (Nat.lt_irrefl _)
 . rw[View.b8]at he;exact hrow b' sz cap (by simpa using he)
 . rw[View.rD,hl]at hb;cases hb;exact Nat.le_refl _
theorem WR.Mo (hW:WR P w0 V H W) {cs:List AV} {vs:Array Value} (hr:aj V cs (vs.toList.take cs.length)) (h1:aA cs=true) (t:TypeId):
   bO w0 V (V.at H.length (.blk W.heap.size))/\WR P w0 (V.at H.length (.blk W.heap.size)) (H++[.cells cs]) (W.alloc (.cells vs t)):=
 hW.tW hr h1 t (.blk W.heap.size) rfl (fun _ _ _ h=>by cases h) rfl rfl rfl rfl
theorem WR.pf (hW:WR P w0 V H W) {cs:List AV} {vs:Array Value} (hr:aj V cs vs.toList) (h1:aA cs=true) (t:TypeId):
   bO w0 V (V.at H.length (.blk W.heap.size))/\WR P w0 (V.at H.length (.blk W.heap.size)) (H++[.cells cs]) (W.alloc (.cells vs t)):=hW.Mo hr.whole h1 t
theorem Cr (hW:WR P w0 V H W) {o:Oper} {t:TypeId} {nx:Nx} {H':ab} {ao:AOp} (ho:o.op= .alloc t) (hc:cOp P o=some ao) (h:bI ao tm H=some (nx,H')):fJ P w0 V H W a o H' nx:=by
 simp only[cOp,ho]at hc;split at hc
 . rename_i z hz;split at hc
   . rename_i hone;cases hc;cases h;obtain⟨zv,i,hi,hzero,hsz,hrz,hrun⟩:=bQ (V:=V) hz;obtain⟨h1,h2⟩:=hW.pf hrz.flat hone t;refine⟨_,_,.pointer (some ⟨W.heap.size,0,none⟩), ?_,.ptr (View.iv _ _ _),h1,h2⟩
     have:(Instr.alloc t true (.tuple #[])).run P W= .ok (.pointer (some ⟨W.heap.size,0,none⟩)) (W.alloc (.cells zv.cells t)):=by
       simp[Instr.alloc,hrun W,newVar,newRow]
     simpa[execOp,ho] using cP this
   . cases hc
 . cases hc
theorem J2 (hW:WR P w0 V H W) (hT:aj V tm a.tmps.toList) {o:Oper} {t:TypeId} {x:Operand} {nx:Nx} {H':ab} {ao:AOp} (ho:o.op= .box t x) (hc:cOp P o=some ao) (h:bI ao tm H=some (nx,H')):fJ P w0 V H W a o H' nx:=by
 simp only[cOp,ho]at hc;obtain⟨x',hx,rfl⟩:=Option.map_eq_some_iff.1 hc
 have key:bI (.box x') tm H=some (nx,H')->fJ P w0 V H W a o H' nx:=by
   intro h;simp only[bI]at h;split at h
   . rename_i hone;cases h;obtain⟨h1,h2⟩:=hW.pf (aM hT hx).flat hone t;refine⟨_,_,.pointer (some ⟨W.heap.size,0,none⟩), ?_,.ptr (View.iv _ _ _),h1,h2⟩
     have:(Instr.box t (a.eval x)).run P W= .ok (.pointer (some ⟨W.heap.size,0,none⟩)) (W.alloc (.cells (a.eval x).cells t)):=by
       simp[Instr.box,newVar,newRow]
     simpa[execOp,ho] using cP this
   . cases h
 split at h
 . exact key h
 split at h
 . simp[bI]at h
 exact key h
theorem tM (hW:WR P w0 V H W) (hT:aj V tm a.tmps.toList) {o:Oper} {t:TypeId} {l c:Operand} {nx:Nx} {H':ab} {ao:AOp} (ho:o.op= .makeSlice t l c) (hc:cOp P o=some ao) (h:bI ao tm H=some (nx,H')):fJ P w0 V H W a o H' nx:=by
 simp only[cOp,ho]at hc;split at hc
 case h_2=>cases hc
 rename_i e l' c' he hl hc';split at hc
 case h_2=>cases hc
 rename_i i z hi hz;cases hc;obtain⟨zv,i',hi',hzero,hsz,hrz,_⟩:=bQ (V:=V) hz;rw[hi]at hi';cases hi';have hu:=dI he;split at h
 case isFalse=>simp only[bI]at h;cases h
 simp only[bI]at h;split at h
 case h_2=>cases h
 rename_i n hn;cases h;obtain⟨kl,kc,e1,e2,hzl,hone,h1,h2⟩:=gz hn;have hrl:=aM hT hl;have hrc:=aM hT hc';rw[e1]at hrl;rw[e2]at hrc;have hrun:=wQ (P:=P) (W:=W) hu hi hzero (kl:=kl) (kc:=kc) h1 h2;rw[<-bu hrl,<-bu hrc]at hrun
 have hbase:=mS hrz.flat n (by
   rcases Nat.eq_zero_or_pos zv.cells.size with h|h
   . right;rw[h];rfl
   . exact .inl h)
 rw[hsz]at hbase
 have hone':aA (bX n z.flat)=true:=by
   rw[ba];intro x hx
   have:∀n,x∈bX n z.flat->x∈z.flat:=by
     intro n
     induction n with
     |zero=>intro h;simp[bX]at h
     |succ n ih=>intro h;rw[bX,List.mem_append]at h;exact h.elim id ih
   exact(ba _).1 hone x (this n hx)
 obtain⟨g1,g2⟩:=hW.pf hbase hone' e;refine⟨_,_,.slice (some ⟨W.heap.size,0,none⟩) n n, ?_,.msl (View.iv _ _ _) (Nat.le_refl _),g1,g2⟩;have:=cP hrun;simpa[execOp,ho] using this
theorem Cb (hW:WR P w0 V H W) (hT:aj V tm a.tmps.toList) {o:Oper} {t:TypeId} {len:Nat} {ps:Array (Nat×Operand)} {nx:Nx} {H':ab} {ao:AOp} (ho:o.op= .buildSlice t len ps) (hc:cOp P o=some ao) (h:bI ao tm H=some (nx,H')):fJ P w0 V H W a o H' nx:=by
 simp only[cOp,ho]at hc;split at hc
 case h_2=>cases hc
 rename_i e he;split at hc
 case h_2=>cases hc
 rename_i s z hs hz;split at hc
 case isFalse=>cases hc
 rename_i hpos;obtain⟨qs,hq,rfl⟩:=Option.map_eq_some_iff.1 hc;split at h
 case isFalse=>split at h<;>cases h
 simp only[bI]at h;split at h
 case h_2=>cases h
 rename_i cs hf;split at h
 case isFalse=>cases h
 rename_i hone;cases h;simp only[Bool.and_eq_true,beq_iff_eq]at hone;obtain⟨vs',hrunS,hr⟩:=qv (W:=W) hT he hs hz hpos.1 hpos.2 hq hf
 have hl:vs'.size=cs.length:=by have:=hr.1;simpa using this.symm
 have hle:len<=maxLen:=by
   have:len*1<=len*s:=Nat.mul_le_mul_left _ hpos.1
   have h2:(16777216:Nat)<=maxLen:=by decide
   omega
 obtain⟨g1,g2⟩:=hW.tW (W1:=W) (vs:=vs') (by rw[<-hl];rw[<-Array.length_toList,List.take_length];exact hr) hone.1 e (.row W.heap.size s len) rfl (fun b' sz' cap' h=>by cases h;exact⟨by omega,hle⟩) rfl rfl rfl rfl;refine⟨_,_,.slice (some ⟨W.heap.size,0,none⟩) len len, ?_,.rsl (View.b8 _ _ _) (Nat.le_refl _),g1,g2⟩;have:=cP hrunS;simpa[execOp,ho] using this
theorem bN (W:World) (g:Nat) (cs:Array Value):W.grownBy (W.setRow g cs) (some g):=⟨rfl,rfl,rfl,by simp[World.setRow],fun k _ hk=>setRow_other W g k cs (fun e=>hk (by rw[e]))⟩
theorem CM (hW:WR P w0 V H W) (hT:aj V tm a.tmps.toList) {o:Oper} {t:TypeId} {x y:Operand} {nx:Nx} {H':ab} {ao:AOp} (ho:o.op= .store t x y) (hc:cOp P o=some ao) (h:bI ao tm H=some (nx,H')):fJ P w0 V H W a o H' nx:=by
 simp only[cOp,ho]at hc;split at hc
 . rename_i s x' y' hs hx hy;cases hc;have hr:=aM hT hx;have hry:=aM hT hy;simp only[bI]at h;split at h
   . rename_i id off he;rw[he]at hr;obtain⟨b,hb,hl⟩:=gT hr;split at h
     . rename_i cs hcs;split at h
       . rename_i hcnd;obtain⟨c1,c2,c3⟩:=hcnd;cases h;obtain⟨b',vs,ty,hb',hge,hh,hrl,hone,himm,hrw⟩:=hW.obj id _ hcs;rw[hl]at hb';cases hb'
         have hsz:(a.eval y).cells.size=s:=by rw[<-hry.mE];exact c1
         have hlen:cs.length<=vs.size:=by have:=hrl.1;simp at this;omega
         have h1:=hry.flat.aA c3
         have hfit:off+0+(a.eval y).cells.toList.length<=vs.size:=by simp;omega
         have hst:=run_storeCells_at P b off ty (a.eval y).cells.toList 0 vs W hh hfit h1
         have hrun:(Instr.storeAt t (a.eval x) (a.eval y)).run P W= .ok () (W.setRow b (vs.toList.take off++(a.eval y).cells.toList++vs.toList.drop (off+s)).toArray):=by
           simp only[Nat.add_zero,Array.length_toList,hsz]at hst;simp only[Instr.storeAt,hb,Instr.sureAddr,storeVar,Sem.run_bind,Sem.run_pure,Result.andThen_ok,cz hs];rw[if_neg (by simp[hsz])];simp only[Sem.run_pure,Result.andThen_ok,hst]
         refine⟨V,W.setRow b (vs.toList.take off++(a.eval y).cells.toList++vs.toList.drop (off+s)).toArray, ?_,.refl w0 V,hW.upd hcs rfl hl (bN W b _) (fun p v hp=> ?_) ⟨b,(vs.toList.take off++(a.eval y).cells.toList++vs.toList.drop (off+s)).toArray,ty,hl,hge,setRow_heap W b vs _ ty (0,0) hh, ?_, ?_,himm,fun b' sz cap he=> ?_⟩ (fun _=>trivial)⟩
         . simp[execOp,ho,hrun]
         . have hne:p.block≠b:=fun e=>by
             have hcell:=(hW.imm p v hp).1
             have hspot:p.spot=none:=by
               cases hsp:p.spot with
               |none=>rfl
               | some q=>
                 exfalso;unfold World.cell? at hcell;split at hcell
                 . simp[hsp]at hcell
                 . cases hcell
             have:V.imm ⟨b,p.off,none⟩=some v:=by rw[<-hp,<-e,<-hspot]
             rw[himm]at this;cases this
           exact((bN W b _).cell (hW.imm p v hp).1 (by simpa using hne))
         . have h3:=((hrl.take off).append hry.flat).append (hrl.drop (off+s))
           have hfl:(a.eval y).cells.toList.length=s:=by simpa using hsz
           have e1:vs.toList=vs.toList.take cs.length++vs.toList.drop cs.length:=(List.take_append_drop _ _).symm;have htl:(vs.toList.take cs.length).length=cs.length:=hrl.1.symm
           have e2:vs.toList.take off=(vs.toList.take cs.length).take off:=by rw[List.take_take];congr 1;omega
           have e3:vs.toList.drop (off+s)=(vs.toList.take cs.length).drop (off+s)++vs.toList.drop cs.length:=by
             conv=>lhs;rw[e1]
             rw[List.drop_append_of_le_length (by omega)]
           have hlen3:(cs.take off++(y'.ev tm).flat++cs.drop (off+s)).length=((vs.toList.take cs.length).take off++(a.eval y).cells.toList++(vs.toList.take cs.length).drop (off+s)).length:=h3.1;have hlen4:((vs.toList.take cs.length).take off++(a.eval y).cells.toList++(vs.toList.take cs.length).drop (off+s)).length=(cs.take off++(y'.ev tm).flat++cs.drop (off+s)).length:=hlen3.symm;show aj V _ (List.take _ (vs.toList.take off++(a.eval y).cells.toList++vs.toList.drop (off+s)))
           rw[e3,e2,<-List.append_assoc,List.take_left' hlen4];exact h3
         . have hfl:(a.eval y).cells.toList.length=s:=by simpa using hsz
           have h3:=((hrl.take off).append hry.flat).append (hrl.drop (off+s));have e1:vs.toList=vs.toList.take cs.length++vs.toList.drop cs.length:=(List.take_append_drop _ _).symm;have htl:(vs.toList.take cs.length).length=cs.length:=hrl.1.symm
           have e2:vs.toList.take off=(vs.toList.take cs.length).take off:=by rw[List.take_take];congr 1;omega
           have e3:vs.toList.drop (off+s)=(vs.toList.take cs.length).drop (off+s)++vs.toList.drop cs.length:=by
             conv=>lhs;rw[e1]
             rw[List.drop_append_of_le_length (by omega)]
           show∀v∈List.take _ (vs.toList.take off++(a.eval y).cells.toList++vs.toList.drop (off+s)),v.oneCell'=true
           rw[e3,e2,<-List.append_assoc,List.take_left' h3.1.symm];intro v hv;simp only[List.mem_append]at hv
           rcases hv with(hv|hv)|hv
           . exact hone v (List.mem_of_mem_take hv)
           . exact h1 v hv
           . exact hone v (List.mem_of_mem_drop hv)
         . have:=hrw b' sz cap he;refine⟨?_,this.2⟩;rw[<-this.1];simp;omega
       . cases h
     . cases h
   . cases h
 . cases hc
theorem CG (hW:WR P w0 V H W) {o:Oper} {t:TypeId} {r:Option Operand} {nx:Nx} {H':ab} {ao:AOp} (ho:o.op= .makeMap t r) (hc:cOp P o=some ao) (h:bI ao tm H=some (nx,H')):fJ P w0 V H W a o H' nx:=by
 cases r with
 |some r=>simp[cOp,ho]at hc
 | none=>
   simp only[cOp,ho,Option.some.injEq]at hc;subst hc;cases h;have hs:=uM (o:= .map #[] 0) hW (.blk W.heap.size);refine⟨_,_,.map (some W.heap.size), ?_,.mp (View.b8 _ _ _),hs.grow hW.size (by simp),hW.push hs (jP hW _) (jk hW _) ⟨W.heap.size,#[],0,View.b8 _ _ _,hW.size,heap_alloc_new W _,aj.nil _,aj.nil _,⟨rfl,fun i x hx=>by simp at hx⟩⟩ (fun b hb=> ?_)⟩
   . have:(Instr.makeMap t none).run P W= .ok (.map (some W.heap.size)) (W.alloc (.map #[] 0)):=rfl;simpa[execOp,ho] using cP this
   . simp[aK,View.b8]at hb;omega
theorem qM {b:Nat} {ents:Array MapEntry} {clk:Nat} (h:W.heap[b]? =some (.map ents clk)) (o:Obj):(setObj b o).run P W= .ok () {W with heap:=W.heap.setIfInBounds b o}:=by simp[setObj,Sem.run,h]
theorem cB (W:World) (b:Nat) (o:Obj):W.grownBy {W with heap:=W.heap.setIfInBounds b o} (some b):=⟨rfl,rfl,rfl,by simp,fun k _ hk=>by
 show(W.heap.setIfInBounds b o)[k]? =_
 rw[Array.getElem?_setIfInBounds_ne (fun e=>hk (by rw[e]))]⟩
theorem gM {b:Nat} {o':Obj} (h:W.heap[b]? =some o') (o:Obj):({W with heap:=W.heap.setIfInBounds b o}:World).heap[b]? =some o:=by
 have:=(Array.getElem?_eq_some_iff.1 h).1;show(W.heap.setIfInBounds b o)[b]? =_
 rw[Array.getElem?_setIfInBounds_self_of_lt this]
theorem qZ {kk:Nat} {x y:AV} {u u':Value} (hx:Rep V x u) (hy:Rep V y u') (h:bk kk x y=some true) (n:Nat):Instr.sameBits n u' u=true:=by
 unfold bk at h;split at h
 . split at h
   . rename_i hc;simp at h;subst h hc;rw[bu hx,bu hy]
     cases n<;>simp[Instr.sameBits]
   . cases h
 . simp at h;subst h;rw[dq hx,dq hy]
   cases n<;>simp[Instr.sameBits]
 . simp only[Option.some.injEq]at h;rw[cR hx,cR hy];rw[beq_toListBytes]at h;have h':=(beq_iff_eq.1 h).symm
   have:∀p q:ByteArray,p.toList=q.toList->(p==q)=true:=fun p q e=>by rw[beq_toListBytes];exact beq_iff_eq.2 e
   cases n<;>simp only[Instr.sameBits,this _ _ h']
 . cases h
theorem r6 {kk:Nat} {k:AV}:∀{es:List (AV×AV)} {i j:Nat} {v:AV},cw kk k es i=some (some (j,v))->i<=j/\∃e,es[j-i]? =some e/\bk kk k e.1=some true/\e.2=v
 |[],i,j,v,h=>by simp[cw]at h
 | e::es,i,j,v,h=>by
   simp only[cw]at h;split at h
   . rename_i he;cases h;exact⟨Nat.le_refl _,e,by simp,he,rfl⟩
   . obtain⟨h1,e',h2,h3⟩:=r6 h;refine⟨by omega,e', ?_,h3⟩;rw[show j-i=(j-(i+1))+1 from by omega];simpa using h2
   . cases h
end Go.Am
