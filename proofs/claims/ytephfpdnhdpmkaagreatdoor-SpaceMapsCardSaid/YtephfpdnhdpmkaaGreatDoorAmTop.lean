/- THE INTERPRETER STANDS FOR THE MACHINE: calls on plain values, calls in memory, rounds; by fuel. No condition. -/
import Derived.Test.YtephfpdnhdpmkaaGreatDoorAmCall
open Int (reduceEq)
open Nat (reduceEqDiff reduceAdd reduceMul reduceLT reduceLeDiff)
set_option linter.all false
namespace Go.Am
open Go Go.RowKit
set_option linter.unusedSectionVars false
variable [dy]
variable {P:Program} {w0:World} {V:View} {H:ab} {W:World} {tm:List AV} {a:Act}
theorem zU:∀(xs:List AV),hfL xs=true↔∀x∈xs,x.hf=true
 |[]=>by simp[hfL]
 |x::r=>by simp[hfL,zU r]
theorem dZ {xs:List AV} (h:hfL xs=true) {i:Nat} {x:AV} (hx:xs[i]? =some x):x.hf=true:=(zU xs).1 h x (List.mem_of_getElem? hx)
theorem Rep.hf {x:AV} {v:Value} (h:Rep V x v):x.hf=true->∀{V':View},(∀p v,V.imm p=some v->V'.imm p=some v)->Rep V' x v:=by
 induction h with
 |bool b=>intro _ V' _;exact .bool b
 |int k n=>intro _ V' _;exact .int k n
 |str s=>intro _ V' _;exact .str s
 |agg hl _ ih=>intro hx V' hV;simp only[AV.hf]at hx;exact .agg hl (fun i x v h1 h2=>ih i x v h1 h2 (dZ hx h1) hV)
 |tup hl _ ih=>intro hx V' hV;simp only[AV.hf]at hx;exact .tup hl (fun i x v h1 h2=>ih i x v h1 h2 (dZ hx h1) hV)
 |slnil sz=>intro _ V' _;exact .slnil sz
 |slx sz a=>intro _ V' _;exact .slx sz a
 | sl f hn hc hnc hi _ ht ih=>
   intro hx V' hV;simp only[AV.hf,Bool.and_eq_true]at hx;exact .sl f hn hc hnc (fun i h=>hV _ _ (hi i h)) (fun i x h1=>ih i x h1 (dZ hx.1 h1) hV) ht
 |slo f hn hnc hl hi _ ih=>intro hx;simp[AV.hf,Tk.hf]at hx
 |msl hl hnc=>intro hx;simp[AV.hf]at hx
 |rsl hl hnc=>intro hx;simp[AV.hf]at hx
 |ptr hl=>intro hx;simp[AV.hf]at hx
 |cL=>intro _ V' _;exact .cL
 | bU f hi _ ih=>
   intro hx V' hV;simp only[AV.hf]at hx;exact .bU f (fun i h=>hV _ _ (hi i h)) (fun i x h1=>ih i x h1 (dZ hx h1) hV)
 |fn hl _ ih=>intro hx V' hV;simp only[AV.hf]at hx;exact .fn hl (fun i x v h1 h2=>ih i x v h1 h2 (dZ hx h1) hV)
 |bnd hl _ ih=>intro hx V' hV;simp only[AV.hf]at hx;exact .bnd hl (fun i x v h1 h2=>ih i x v h1 h2 (dZ hx h1) hV)
 |cO=>intro _ V' _;exact .cO
 |iface _ ih=>intro hx V' hV;simp only[AV.hf]at hx;exact .iface (ih hx hV)
 |fI=>intro _ V' _;exact .fI
 |mp hl=>intro hx;simp[AV.hf]at hx
 |fj=>intro _ V' _;exact .fj
 |yld hl=>intro hx;simp[AV.hf]at hx
 |any a n c=>intro _ V' _;exact .any a n c
theorem aj.hf {xs:List AV} {vs:List Value} (h:aj V xs vs) (hx:hfL xs=true) {V':View} (hV:∀p v,V.imm p=some v->V'.imm p=some v):aj V' xs vs:=
 ⟨h.1,fun i x v h1 h2=>(h.2 i x v h1 h2).hf (dZ hx h1) hV⟩
theorem Hi {V':View} (hV:∀p v,V.imm p=some v->V'.imm p=some v):∀{c:List (AV×Bool)} {ch:List PanicEntry},hfL (c.map (·.1))=true->ChR V c ch->ChR V' c ch
 |[],[],_,_=>trivial
 | _::_,_::_,hx,h=>by
   simp only[List.map_cons,hfL,Bool.and_eq_true]at hx;exact⟨h.1.hf hx.1 hV,h.2.1,h.2.2.1,Hi hV hx.2 h.2.2.2⟩
 |[],_::_,_,h=>h.elim
 |_::_,[],_,h=>h.elim
theorem xc {x:AV} {v:Value} (h:Rep V x v):Rep V (aC x) v:=by
 have h0:=h
 cases h with
 | agg hl h=>
   rename_i xs cs;refine .agg (by simpa using hl) (fun i x v h1 h2=> ?_);rw[List.getElem?_map]at h1;obtain⟨y,hy,rfl⟩:=Option.map_eq_some_iff.1 h1;exact fC (h i y v hy h2)
 |_=>exact fC h0
theorem yO {x:AV} {v:Value} (h:Rep V x v):Rep V (aI x) v:=by
 have h0:=h
 cases h with
 | tup hl h=>
   rename_i xs cs;refine .tup (by simpa using hl) (fun i x v h1 h2=> ?_);rw[List.getElem?_map]at h1;obtain⟨y,hy,rfl⟩:=Option.map_eq_some_iff.1 h1;exact xc (h i y v hy h2)
 | agg hl h=>
   rename_i xs cs;refine .agg (by simpa using hl) (fun i x v h1 h2=> ?_);rw[List.getElem?_map]at h1;obtain⟨y,hy,rfl⟩:=Option.map_eq_some_iff.1 h1;exact fC (h i y v hy h2)
 |_=>exact h0
theorem CR {xs:List AV} {vs:List Value} (h:aj V xs vs):aj V (xs.map aC) vs:=
 ⟨by simpa using h.1,fun i x v h1 h2=>by
   rw[List.getElem?_map]at h1;obtain⟨y,hy,rfl⟩:=Option.map_eq_some_iff.1 h1
   exact xc (h.2 i y v hy h2)⟩
theorem mC {r:Option (Out×ab)} {q:PR} (h:aB r=some q):∃o H',r=some (o,H')/\∀(V:View) (W W':World) (V':View) (e:Ending),
   bO W ⟨V.imm,fun _=>none⟩ V'->WR P W V' H' W'->yK V' o e->fG V W q e W':=by
 have key:∀{V:View} {W W':World} {V':View} {H':ab} {e:Ending} {q:PR},bO W ⟨V.imm,fun _=>none⟩ V'->WR P W V' H' W'→
     (match q,e with
       | .plain v,.returned u=>Rep ⟨V'.imm,V.loc⟩ v u
       | .fresh sz n cs,.returned u=>∃e' xs b cap,u= .slice (some ⟨b,0,none⟩) n cap/\W'.ownsRow W.heap.size e' sz u n xs/\(∀off,n*sz<=off->V'.imm ⟨b,off,none⟩=none)∧
           Rep ⟨V'.imm,V.loc⟩ (.sl sz n cs .ro) u/\∀L:Nat->Option Loc,∀g,(∀i l,V.loc i=some l->L i=some l)->L g=some (.own u)->Rep ⟨V'.imm,L⟩ (.sl sz n cs (.own g)) u
       | .ir es,.returned u=>∃b ents clk,u= .map (some b)/\W.heap.size<=b/\W'.heap[b]? =some (.map ents clk)/\Stm ents clk/\∀L:Nat->Option Loc,aj ⟨V'.imm,L⟩ (es.map (·.1)) (ents.toList.map (·.key))/\aj ⟨V'.imm,L⟩ (es.map (·.2)) (ents.toList.map (·.val))
       | .pan c,.panicked ch=>ChR ⟨V'.imm,V.loc⟩ c ch
       | .iw v,.returned u=>Rep ⟨fun p=>if W.heap.size<=p.block then V'.imm p else none,V.loc⟩ v u
       |_,_=>False)->fG V W q e W':=by
   intro V W W' V' H' e q g w h;exact⟨V'.imm,w.below,w.imm,g.le.imm,g.new,h⟩
 unfold aB at h;split at h
 . rename_i sz n cs g H';split at h
   . rename_i sz' hg;split at h
     . rename_i hcnd;simp only[Bool.and_eq_true,decide_eq_true_eq,beq_iff_eq]at hcnd;obtain⟨hsz,hcs⟩:=hcnd;subst hsz;cases h;refine⟨_,_,rfl,fun V W W' V' e g1 g2 g3=>key g1 g2 ?_⟩
       cases e with
       | returned u=>
         have hr:Rep V' (.sl sz' n cs (.own g)) u:=g3
         cases hr with
         |sl f hn hc hnc hi h ht=>rcases ht with ht|⟨ht,_⟩<;>cases ht
         | slo f hn hnc hl hi hh=>
           rename_i b cap;obtain⟨v1,e1,n1,xs,b1,hl1,hown,hob,hsp⟩:=g2.obj g _ hg;rw[hl]at hl1;cases hl1;simp only[Value.ownBlock,Option.some.injEq]at hob;subst hob
           have hn1:n1=n:=by
             rcases hown.2 with⟨h1,_⟩|⟨_,_,_,h1,_⟩
             . cases h1
             . cases h1;rfl
           subst hn1;refine⟨e1,xs,b,cap,rfl,hown,hsp, ?_,fun L g' _ hL=> ?_⟩
           . refine .sl (o:=0) f (Nat.le_of_eq hn.symm) (by rw[hn];exact Nat.mul_le_mul_right _ hnc) hnc (fun i hi'=>by rw[Nat.zero_add];exact hi i hi') (fun i x h1=>(hh i x h1).hf (dZ hcs h1) (fun _ _ h=>h)) (.inl rfl)
           . exact .slo f hn hnc hL hi (fun i x h1=>(hh i x h1).hf (dZ hcs h1) (fun _ _ h=>h))
       |panicked _=>exact g3.elim
       |outgrown=>exact g3.elim
     . cases h
   . cases h
 . rename_i sz id off n H';split at h
   . rename_i cs hg;split at h
     . rename_i hcnd;obtain⟨hlen,hcs⟩:=hcnd;cases h;refine⟨_,_,rfl,fun V W W' V' e g1 g2 g3=> ?_⟩
       cases e with
       | returned u=>
         have hr:Rep V' (.msl sz id off n) u:=g3
         cases hr with
         | msl hl hnc=>
           rename_i b cap;obtain⟨b1,vs,t,hl1,hge,hcell,hrl,hone,himm,_⟩:=g2.obj id _ hg;rw[hl]at hl1;cases hl1
           have hsz:cs.length<=vs.size:=by
             have:=hrl.1;simp only[List.length_take,Array.length_toList,List.size_toArray]at this;omega
           have hsub:∀p v,V'.imm p=some v->(if p.block=b/\p.spot=none/\p.off<cs.length then vs[p.off]? else V'.imm p)=some v:=by
             intro p v hp;rw[if_neg]
             . exact hp
             . rintro ⟨h1,h2,_⟩
               obtain⟨pb,po,ps⟩:=p;simp only at h1 h2;subst h1 h2;rw[himm po]at hp;cases hp
           refine⟨fun p=>if p.block=b/\p.spot=none/\p.off<cs.length then vs[p.off]? else V'.imm p,g2.below,fun p v hp=> ?_,fun p v hp=>hsub p v (g1.le.imm p v hp),fun p v hp=> ?_, ?_⟩
           . simp only at hp;split at hp
             . rename_i hc;obtain⟨pb,po,ps⟩:=p;simp only at hc;obtain⟨rfl,rfl,hlt⟩:=hc;refine⟨by simpa[World.cell?,hcell] using hp,hone v ?_⟩
               have hx:(vs.toList.take cs.length)[po]? =some v:=by
                 rw[List.getElem?_take,if_pos hlt,Array.getElem?_toList];exact hp
               exact List.mem_of_getElem? hx
             . exact g2.imm p v hp
           . simp only at hp;split at hp
             . rename_i hc;right;rw[hc.1];exact hge
             . exact g1.new p v hp
           . have hwl:((cs.drop off).take (n*sz)).length=n*sz:=by rw[List.length_take,List.length_drop];omega
             refine .sl (fun i=>vs[off+i]!) (by rw[hwl];exact Nat.le_refl _) (by rw[hwl];exact Nat.mul_le_mul_right _ hnc) hnc (fun i hi=> ?_) (fun i x hx=> ?_) (.inl rfl)
             . rw[hwl]at hi
               have h1:off+i<vs.size:=by omega
               simp only;simp only[true_and];rw[if_pos (by omega)];simp[h1]
             . have hi:i<n*sz:=by have:=(List.getElem?_eq_some_iff.1 hx).1;rw[hwl]at this;exact this
               rw[List.getElem?_take,if_pos hi,List.getElem?_drop]at hx
               have h1:off+i<vs.size:=by omega
               have hv:(vs.toList.take cs.length)[off+i]? =some (vs[off+i]!):=by
                 rw[List.getElem?_take,if_pos (by omega),Array.getElem?_toList];simp[h1]
               exact(hrl.2 _ _ _ hx hv).hf (dZ hcs hx) hsub
       |panicked _=>exact g3.elim
       |outgrown=>exact g3.elim
     . cases h
   . cases h
 . rename_i sz id n H';split at h
   . rename_i cs hg;split at h
     . rename_i hcnd;obtain⟨hlen,hn0,hcs⟩:=hcnd;cases h;refine⟨_,_,rfl,fun V W W' V' e g1 g2 g3=> ?_⟩
       cases e with
       | returned u=>
         have hr:Rep V' (.rsl sz id n) u:=g3
         cases hr with
         | rsl hl hnc=>
           rename_i b cap;obtain⟨b1,vs,t,hl1,hge,hcell,hrl,hone,himm,hrw⟩:=g2.obj id _ hg
           have hbk:aK V' id=some b:=by simp[aK,hl]
           rw[hbk]at hl1;cases hl1;obtain⟨hcsz,hcapm⟩:=hrw _ _ _ hl
           have hsz:cs.length<=vs.size:=by
             have:=hrl.1;simp only[List.length_take,Array.length_toList]at this;omega
           have hsub:∀p v,V'.imm p=some v->(if p.block=b/\p.spot=none/\p.off<cs.length then vs[p.off]? else V'.imm p)=some v:=by
             intro p v hp;rw[if_neg]
             . exact hp
             . rintro ⟨h1,h2,_⟩
               obtain⟨pb,po,ps⟩:=p;simp only at h1 h2;subst h1 h2;rw[himm po]at hp;cases hp
           have hcell':∀i,i<cs.length->(if(⟨b,i,none⟩:Addr).block=b/\(⟨b,i,none⟩:Addr).spot=none/\(⟨b,i,none⟩:Addr).off<cs.length then vs[(⟨b,i,none⟩:Addr).off]? else V'.imm ⟨b,i,none⟩)=some (vs[i]!):=by
             intro i hi;rw[if_pos ⟨rfl,rfl,hi⟩]
             have h1:i<vs.size:=by omega
             simp[h1]
           have hrep:∀(L:Nat->Option Loc) (i:Nat) (x:AV),cs[i]? =some x->Rep ⟨fun p=>if p.block=b/\p.spot=none/\p.off<cs.length then vs[p.off]? else V'.imm p,L⟩ x (vs[i]!):=by
             intro L i x hx;have hi:i<cs.length:=(List.getElem?_eq_some_iff.1 hx).1
             have h1:i<vs.size:=by omega
             have hv:(vs.toList.take cs.length)[i]? =some (vs[i]!):=by
               rw[List.getElem?_take,if_pos hi,Array.getElem?_toList];simp[h1]
             exact(hrl.2 _ _ _ hx hv).hf (dZ hcs hx) hsub
           refine⟨fun p=>if p.block=b/\p.spot=none/\p.off<cs.length then vs[p.off]? else V'.imm p,g2.below,fun p v hp=> ?_,fun p v hp=>hsub p v (g1.le.imm p v hp),fun p v hp=> ?_, ?_⟩
           . simp only at hp;split at hp
             . rename_i hc;obtain⟨pb,po,ps⟩:=p;simp only at hc;obtain⟨rfl,rfl,hlt⟩:=hc;refine⟨by simpa[World.cell?,hcell] using hp,hone v ?_⟩
               have hx:(vs.toList.take cs.length)[po]? =some v:=by
                 rw[List.getElem?_take,if_pos hlt,Array.getElem?_toList];exact hp
               exact List.mem_of_getElem? hx
             . exact g2.imm p v hp
           . simp only at hp;split at hp
             . rename_i hc;right;rw[hc.1];exact hge
             . exact g1.new p v hp
           . refine⟨t,vs.toList.take (n*sz),b,cap,rfl,⟨?_,.inr ⟨b,cap,vs,rfl,hge,hcell,hnc,hcapm,hcsz,rfl⟩⟩,fun off hoff=> ?_, ?_,fun L g' _ hL=> ?_⟩
             . rw[List.length_take,Array.length_toList];omega
             . show(if b=b/\(none:Option Nat)=none/\off<cs.length then vs[off]? else V'.imm ⟨b,off,none⟩)=none
               rw[if_neg (by omega)];exact himm off
             . exact .sl (o:=0) (fun i=>vs[i]!) (Nat.le_of_eq hlen.symm) (by rw[hlen];exact Nat.mul_le_mul_right _ hnc) hnc (fun i hi=>by rw[Nat.zero_add];exact hcell' i hi) (fun i x hx=>hrep _ i x hx) (.inl rfl)
             . exact .slo (fun i=>vs[i]!) hlen hnc hL (fun i hi=>hcell' i hi) (fun i x hx=>hrep _ i x hx)
       |panicked _=>exact g3.elim
       |outgrown=>exact g3.elim
     . cases h
   . cases h
 . rename_i sz id off n v0 H';split at h
   . rename_i cs hg;split at h
     . rename_i hcnd;obtain⟨hlen,hcs,hv0⟩:=hcnd;cases h;refine⟨_,_,rfl,fun V W W' V' e g1 g2 g3=> ?_⟩
       cases e with
       | returned u=>
         have hr0:Rep V' (.tup [.msl sz id off n,v0]) u:=g3;obtain⟨us,rfl,hrl0⟩:=uV hr0;obtain⟨q0,hq0,hr⟩:=hrl0.get (i:=0) rfl;obtain⟨q1,hq1,hr1⟩:=hrl0.get (i:=1) rfl
         have hus:us.toList=[q0,q1]:=by
           have hl2:=hrl0.1
           match hh:us.toList,hl2 with
           |[a,b],_=>rw[hh]at hq0 hq1;cases hq0;cases hq1;rfl
         cases hr with
         | msl hl hnc=>
           rename_i b cap;obtain⟨b1,vs,t,hl1,hge,hcell,hrl,hone,himm,_⟩:=g2.obj id _ hg;rw[hl]at hl1;cases hl1
           have hsz:cs.length<=vs.size:=by
             have:=hrl.1;simp only[List.length_take,Array.length_toList,List.size_toArray]at this;omega
           have hsub:∀p v,V'.imm p=some v->(if p.block=b/\p.spot=none/\p.off<cs.length then vs[p.off]? else V'.imm p)=some v:=by
             intro p v hp;rw[if_neg]
             . exact hp
             . rintro ⟨h1,h2,_⟩
               obtain⟨pb,po,ps⟩:=p;simp only at h1 h2;subst h1 h2;rw[himm po]at hp;cases hp
           refine⟨fun p=>if p.block=b/\p.spot=none/\p.off<cs.length then vs[p.off]? else V'.imm p,g2.below,fun p v hp=> ?_,fun p v hp=>hsub p v (g1.le.imm p v hp),fun p v hp=> ?_, ?_⟩
           . simp only at hp;split at hp
             . rename_i hc;obtain⟨pb,po,ps⟩:=p;simp only at hc;obtain⟨rfl,rfl,hlt⟩:=hc;refine⟨by simpa[World.cell?,hcell] using hp,hone v ?_⟩
               have hx:(vs.toList.take cs.length)[po]? =some v:=by
                 rw[List.getElem?_take,if_pos hlt,Array.getElem?_toList];exact hp
               exact List.mem_of_getElem? hx
             . exact g2.imm p v hp
           . simp only at hp;split at hp
             . rename_i hc;right;rw[hc.1];exact hge
             . exact g1.new p v hp
           . have hwl:((cs.drop off).take (n*sz)).length=n*sz:=by rw[List.length_take,List.length_drop];omega
             have hsl:Rep ⟨fun p=>if p.block=b/\p.spot=none/\p.off<cs.length then vs[p.off]? else V'.imm p,V.loc⟩ (.sl sz n ((cs.drop off).take (n*sz)) .ro) (.slice (some ⟨b,off,none⟩) n cap):=by
               refine .sl (fun i=>vs[off+i]!) (by rw[hwl];exact Nat.le_refl _) (by rw[hwl];exact Nat.mul_le_mul_right _ hnc) hnc (fun i hi=> ?_) (fun i x hx=> ?_) (.inl rfl)
               . rw[hwl]at hi
                 have h1:off+i<vs.size:=by omega
                 simp only;simp only[true_and];rw[if_pos (by omega)];simp[h1]
               . have hi:i<n*sz:=by have:=(List.getElem?_eq_some_iff.1 hx).1;rw[hwl]at this;exact this
                 rw[List.getElem?_take,if_pos hi,List.getElem?_drop]at hx
                 have h1:off+i<vs.size:=by omega
                 have hv:(vs.toList.take cs.length)[off+i]? =some (vs[off+i]!):=by
                   rw[List.getElem?_take,if_pos (by omega),Array.getElem?_toList];simp[h1]
                 exact(hrl.2 _ _ _ hx hv).hf (dZ hcs hx) hsub
             have htp:=Rep.om (aj.cons hsl (aj.cons (hr1.hf (V':=⟨fun p=>if p.block=b/\p.spot=none/\p.off<cs.length then vs[p.off]? else V'.imm p,V.loc⟩) hv0 hsub) (aj.nil _)));rw[<-hus]at htp;simpa using htp
       |panicked _=>exact g3.elim
       |outgrown=>exact g3.elim
     . cases h
   . cases h
 . rename_i sz id n v0 H';split at h
   . rename_i cs hg;split at h
     . rename_i hcnd;obtain⟨hlen,hcs,hv0⟩:=hcnd;cases h;refine⟨_,_,rfl,fun V W W' V' e g1 g2 g3=> ?_⟩
       cases e with
       | returned u=>
         have hr0:Rep V' (.tup [.rsl sz id n,v0]) u:=g3;obtain⟨us,rfl,hrl0⟩:=uV hr0;obtain⟨q0,hq0,hr⟩:=hrl0.get (i:=0) rfl;obtain⟨q1,hq1,hr1⟩:=hrl0.get (i:=1) rfl
         have hus:us.toList=[q0,q1]:=by
           have hl2:=hrl0.1
           match hh:us.toList,hl2 with
           |[a,b],_=>rw[hh]at hq0 hq1;cases hq0;cases hq1;rfl
         cases hr with
         | rsl hl0 hnc=>
           rename_i b cap
           have hl:aK V' id=some b:=by simp[aK,hl0]
           obtain⟨b1,vs,t,hl1,hge,hcell,hrl,hone,himm,_⟩:=g2.obj id _ hg;rw[hl]at hl1;cases hl1
           have hsz:cs.length<=vs.size:=by
             have:=hrl.1;simp only[List.length_take,Array.length_toList,List.size_toArray]at this;omega
           have hsub:∀p v,V'.imm p=some v->(if p.block=b/\p.spot=none/\p.off<cs.length then vs[p.off]? else V'.imm p)=some v:=by
             intro p v hp;rw[if_neg]
             . exact hp
             . rintro ⟨h1,h2,_⟩
               obtain⟨pb,po,ps⟩:=p;simp only at h1 h2;subst h1 h2;rw[himm po]at hp;cases hp
           refine⟨fun p=>if p.block=b/\p.spot=none/\p.off<cs.length then vs[p.off]? else V'.imm p,g2.below,fun p v hp=> ?_,fun p v hp=>hsub p v (g1.le.imm p v hp),fun p v hp=> ?_, ?_⟩
           . simp only at hp;split at hp
             . rename_i hc;obtain⟨pb,po,ps⟩:=p;simp only at hc;obtain⟨rfl,rfl,hlt⟩:=hc;refine⟨by simpa[World.cell?,hcell] using hp,hone v ?_⟩
               have hx:(vs.toList.take cs.length)[po]? =some v:=by
                 rw[List.getElem?_take,if_pos hlt,Array.getElem?_toList];exact hp
               exact List.mem_of_getElem? hx
             . exact g2.imm p v hp
           . simp only at hp;split at hp
             . rename_i hc;right;rw[hc.1];exact hge
             . exact g1.new p v hp
           . have hwl:(cs.take (n*sz)).length=n*sz:=by rw[List.length_take];omega
             have hsl:Rep ⟨fun p=>if p.block=b/\p.spot=none/\p.off<cs.length then vs[p.off]? else V'.imm p,V.loc⟩ (.sl sz n (cs.take (n*sz)) .ro) (.slice (some ⟨b,0,none⟩) n cap):=by
               refine .sl (fun i=>vs[i]!) (by rw[hwl];exact Nat.le_refl _) (by rw[hwl];exact Nat.mul_le_mul_right _ hnc) hnc (fun i hi=> ?_) (fun i x hx=> ?_) (.inl rfl)
               . rw[hwl]at hi
                 have h1:i<vs.size:=by omega
                 simp only;rw[Nat.zero_add];simp only[true_and];rw[if_pos (by omega)];simp[h1]
               . have hi:i<n*sz:=by have:=(List.getElem?_eq_some_iff.1 hx).1;rw[hwl]at this;exact this
                 rw[List.getElem?_take,if_pos hi]at hx
                 have h1:i<vs.size:=by omega
                 have hv:(vs.toList.take cs.length)[i]? =some (vs[i]!):=by
                   rw[List.getElem?_take,if_pos (by omega),Array.getElem?_toList];simp[h1]
                 exact(hrl.2 _ _ _ hx hv).hf (dZ hcs hx) hsub
             have htp:=Rep.om (aj.cons hsl (aj.cons (hr1.hf (V':=⟨fun p=>if p.block=b/\p.spot=none/\p.off<cs.length then vs[p.off]? else V'.imm p,V.loc⟩) hv0 hsub) (aj.nil _)));rw[<-hus]at htp;simpa using htp
       |panicked _=>exact g3.elim
       |outgrown=>exact g3.elim
     . cases h
   . cases h
 . rename_i id H';split at h
   . rename_i es hg;split at h
     . rename_i hcnd;cases h;refine⟨_,_,rfl,fun V W W' V' e g1 g2 g3=>key g1 g2 ?_⟩
       cases e with
       | returned u=>
         have hr:Rep V' (.mp id) u:=g3
         cases hr with
         | mp hl=>
           rename_i b;obtain⟨b1,ents,clk,hl1,hge,hh,r1,r2,hst⟩:=g2.obj id _ hg;rw[hl]at hl1;cases hl1;exact⟨b,ents,clk,rfl,hge,hh,hst,fun L=>⟨r1.hf hcnd.1 (fun _ _ h=>h),r2.hf hcnd.2 (fun _ _ h=>h)⟩⟩
       |panicked _=>exact g3.elim
       |outgrown=>exact g3.elim
     . cases h
   . cases h
 . rename_i v H' _;split at h
   . rename_i hv;cases h;refine⟨_,_,rfl,fun V W W' V' e g1 g2 g3=>key g1 g2 ?_⟩
     cases e with
     |returned u=>exact(yO g3).hf hv (fun _ _ h=>h)
     |panicked _=>exact g3.elim
     |outgrown=>exact g3.elim
   . cases h
 . rename_i c H';split at h
   . rename_i hv;cases h;refine⟨_,_,rfl,fun V W W' V' e g1 g2 g3=>key g1 g2 ?_⟩
     cases e with
     | panicked ch=>
       have g3':ChR V' c ch:=g3;exact Hi (V:=V') (V':=⟨V'.imm,V.loc⟩) (fun _ _ h=>h) hv g3'
     |returned u=>exact g3.elim
     |outgrown=>exact g3.elim
   . cases h
 . cases h
theorem qO {α β:Type} {f:α->Option β}:∀{l:List α} {k:List β},zr f l=some k->l.length=k.length/\∀(i:Nat) (y:β),k[i]? =some y->∃x,l[i]? =some x/\f x=some y
 |[],k,h=>by cases h;exact⟨rfl,fun i y h=>by simp at h⟩
 | x::r,k,h=>by
   rw[zr]at h;split at h
   . rename_i y ys h1 h2;cases h;obtain⟨g1,g2⟩:=qO h2;refine⟨by simp[g1],fun i z hz=> ?_⟩
     cases i with
     |zero=>exact⟨x,rfl,by simpa[h1] using hz⟩
     |succ i=>exact g2 i z (by simpa using hz)
   . cases h
open Classical in
theorem sJ {W:World} {w0:World} {H:ab} (hW:WR P w0 V H W) {p:Addr} {v:Value} (hp:(eP V H W).imm p=some v):V.imm p=some v∨w0.heap.size<=p.block:=by
 change (if(∃v,V.imm p=some v)then V.imm p else if(∃(id:Nat) (cs:List AV),H[id]? =some (.cells cs)/\aK V id=some p.block/\p.off<cs.length/\p.spot=none)then W.cell? p else none)=some v at hp;split at hp
 . exact .inl hp
 . split at hp
   . rename_i hex;obtain⟨id,cs,h1,h2,_⟩:=hex;obtain⟨b,_,_,hb,hge,_⟩:=hW.obj id _ h1;rw[h2]at hb;cases hb;exact .inr hge
   . cases hp
theorem Ak {V':View} {H':ab} {W':World} {w0:World} (hW:WR P w0 V' H' W') {v w:AV} {u:Value} (h:qE H' v=some w) (hr:Rep V' v u) (L:Nat->Option Loc):
   Rep ⟨fun p=>if w0.heap.size<=p.block then(eP V' H' W').imm p else none,L⟩ w u:=by
 unfold qE at h;split at h
 . rename_i sz n cs g;split at h
   . rename_i sz' hg;split at h
     . rename_i hcnd;obtain⟨hsz,hcs⟩:=hcnd;subst hsz;cases h;simp only[List.all_eq_true]at hcs
       cases hr with
       |sl f hn hc hnc hi h ht=>rcases ht with ht|⟨ht,_⟩<;>cases ht
       | slo f hn hnc hl hi hh=>
         rename_i b cap;obtain⟨v1,e1,n1,xs,b1,hl1,hown,hob,hsp⟩:=hW.obj g _ hg;rw[hl]at hl1;cases hl1;simp only[Value.ownBlock,Option.some.injEq]at hob;subst hob;have hge:=(hown.lt b rfl).1;refine .sl (o:=0) f (Nat.le_of_eq hn.symm) (by rw[hn];exact Nat.mul_le_mul_right _ hnc) hnc (fun i hi'=> ?_) (fun i x h1=>ez (hh i x h1) (hcs x (List.mem_of_getElem? h1)) _) (.inl rfl);show(if w0.heap.size<=b then(eP V' H' W').imm ⟨b,0+i,none⟩else none)=_
         rw[if_pos hge,Nat.zero_add];exact(ig V' H' W').imm _ _ (hi i hi')
     . cases h
   . cases h
 . cases h
   cases hr with
   |slnil=>exact .slnil _
   |sl f hn hc hnc hi h ht=>rcases ht with ht|⟨ht,_⟩<;>cases ht
 . cases h
   cases hr<;>exact .any _ _ _
 . rename_i sz id n;split at h
   . rename_i cs hg;split at h
     . rename_i hcnd;obtain⟨hle,hcs⟩:=hcnd;cases h;simp only[List.all_eq_true]at hcs
       cases hr with
       | rsl hl hnc=>
         rename_i b cap;obtain⟨f,k1,k2⟩:=gF hW hg (b:=b) (by simp[aK,hl]);obtain⟨b2,_,_,hb2,hge,_⟩:=hW.obj id _ hg
         have:b2=b:=by simpa[aK,hl] using hb2.symm
         subst this;refine .sl (o:=0) f (by simp;omega) (by simp;exact Nat.le_trans (Nat.min_le_left _ _) (Nat.mul_le_mul_right _ hnc)) hnc (fun i hi=> ?_) (fun i x hx=> ?_) (.inl rfl)
         . simp at hi;show(if w0.heap.size<=b2 then(eP V' H' W').imm ⟨b2,0+i,none⟩else none)=_
           rw[if_pos hge,Nat.zero_add];exact k1 i (by omega)
         . have hs:=hcs x (List.mem_of_getElem? hx);rw[List.getElem?_take]at hx;split at hx
           . exact ez (k2 i x hx) hs _
           . cases hx
     . cases h
   . cases h
 . rename_i sz id off n;split at h
   . rename_i cs hg;split at h
     . rename_i hcnd;obtain⟨hle,hcs⟩:=hcnd;cases h;simp only[List.all_eq_true]at hcs
       cases hr with
       | msl hl hnc=>
         rename_i b cap;obtain⟨f,k1,k2⟩:=gF hW hg hl;obtain⟨b2,_,_,hb2,hge,_⟩:=hW.obj id _ hg
         have:b2=b:=by rw[hl]at hb2;simpa using hb2.symm
         subst this;refine .sl (fun i=>f (off+i)) (by simp;omega) (by simp;exact Nat.le_trans (Nat.min_le_left _ _) (Nat.mul_le_mul_right _ hnc)) hnc (fun i hi=> ?_) (fun i x hx=> ?_) (.inl rfl)
         . simp at hi;show(if w0.heap.size<=b2 then(eP V' H' W').imm ⟨b2,off+i,none⟩else none)=_
           rw[if_pos hge];exact k1 (off+i) (by omega)
         . have hs:=hcs x (List.mem_of_getElem? hx);rw[List.getElem?_take]at hx;split at hx
           . rw[List.getElem?_drop]at hx;exact ez (k2 _ x hx) hs _
           . cases hx
     . cases h
   . cases h
 . split at h
   . rename_i hs;cases h;exact ez hr hs _
   . cases h
theorem Ab {V':View} {H':ab} {W':World} {w0:World} (hW:WR P w0 V' H' W') {v w:AV} {u:Value} (h:xu H' v=some w) (hr:Rep V' v u) (L:Nat->Option Loc):
   Rep ⟨fun p=>if w0.heap.size<=p.block then(eP V' H' W').imm p else none,L⟩ w u:=by
 unfold xu at h;split at h
 . rename_i cs;obtain⟨ds,hd,rfl⟩:=Option.map_eq_some_iff.1 h;obtain⟨h1,h2⟩:=qO hd
   cases hr with
   | agg hl hh=>
     refine .agg (by omega) (fun i x v hx hv=> ?_);obtain⟨y,hy,hf⟩:=h2 i x hx;exact Ak hW hf (hh i y v hy hv) L
 . exact Ak hW h hr L
theorem Jc {V':View} {H':ab} {W':World} {w0:World} (hW:WR P w0 V' H' W') {v w:AV} {u:Value} (h:CC H' v=some w) (hr:Rep V' v u) (L:Nat->Option Loc):
   Rep ⟨fun p=>if w0.heap.size<=p.block then(eP V' H' W').imm p else none,L⟩ w u:=by
 unfold CC at h;split at h
 . rename_i cs;obtain⟨ds,hd,rfl⟩:=Option.map_eq_some_iff.1 h;obtain⟨h1,h2⟩:=qO hd
   cases hr with
   | tup hl hh=>
     refine .tup (by omega) (fun i x v hx hv=> ?_);obtain⟨y,hy,hf⟩:=h2 i x hx;exact Ab hW hf (hh i y v hy hv) L
 . exact Ab hW h hr L
theorem JJ {r:Option (Out×ab)} {q:PR} (h:pP r=some q):∃o H',r=some (o,H')/\∀(V:View) (W W':World) (V':View) (e:Ending),
   bO W ⟨V.imm,fun _=>none⟩ V'->WR P W V' H' W'->yK V' o e->fG V W q e W':=by
 unfold pP at h;split at h
 . rename_i v H';obtain⟨w,hw,rfl⟩:=Option.map_eq_some_iff.1 h;refine⟨_,_,rfl,fun V W W' V' e g1 g2 g3=>⟨(eP V' H' W').imm,g2.below,iq g2,fun p v hp=>(ig V' H' W').imm p v (g1.le.imm p v hp),fun p v hp=> ?_, ?_⟩⟩
   . rcases sJ g2 hp with hp|hp
     . exact g1.new p v hp
     . exact .inr hp
   cases e with
   |returned u=>exact Jc g2 hw g3 _
   |panicked _=>exact g3.elim
   |outgrown=>exact g3.elim
 . rename_i c H';have hp:aB (some (.pan c,H'))=some q:=h;exact mC hp
 . cases h
theorem rQ {x:AV} {v:Value} (h:Rep V x v):Rep V (eX x) v:=by
 have cell:∀{cs:List AV} {f:Nat->Value},(∀(i:Nat) (x:AV),cs[i]? =some x->Rep V x (f i))->∀(i:Nat) (x:AV),(cs.map au)[i]? =some x->Rep V x (f i):=by
   intro cs f h i x hx;rw[List.getElem?_map]at hx;obtain⟨y,hy,rfl⟩:=Option.map_eq_some_iff.1 hx;exact fC (h i y hy)
 cases h with
 |sl f hn hc hnc hi h ht=>exact fC (.sl f (by simpa using hn) (by simpa using hc) hnc (fun i k=>hi i (by simpa using k)) (cell h) (by simpa using ht))
 |slo f hn hnc hl hi h=>exact fC (.slo f (by simpa using hn) hnc hl (fun i k=>hi i (by simpa using k)) (cell h))
 |slnil sz=>exact .slnil sz
 |slx sz a=>exact .slx sz a
 |agg hl h=>exact .agg hl h
 |tup hl h=>exact .tup hl h
 |bool b=>exact .bool b
 |int k n=>exact .int k n
 |str s=>exact .str s
 |msl a b=>exact .msl a b
 |rsl a b=>exact .rsl a b
 |ptr a=>exact .ptr a
 |cL=>exact .cL
 |bU f a b=>exact .bU f a b
 |fn a b=>exact .fn a b
 |bnd a b=>exact .bnd a b
 |cO=>exact .cO
 |iface a=>exact .iface a
 |fI=>exact .fI
 |mp a=>exact .mp a
 |fj=>exact .fj
 |yld a=>exact .yld a
 |any a n c=>exact .any a n c
theorem s6 {x:AV} {v:Value} (h:Rep V x v):Rep V (zY x) v:=by
 cases x with
 | agg cs=>
   cases h with
   | agg hl h=>
     refine .agg (by simpa using hl) (fun i x v h1 h2=> ?_);rw[List.getElem?_map]at h1;obtain⟨y,hy,rfl⟩:=Option.map_eq_some_iff.1 h1;exact rQ (h i y v hy h2)
 |_=>exact rQ h
theorem JA {W:World} {w0:World} {H:ab} (hW:WR P w0 V H W) {x:AV} {v:Value} (h:Rep V x v):Rep (eP V H W) (oe H x) v:=by
 cases x with
 | tup vs=>
   cases h with
   | tup hl h=>
     refine .tup (by simpa using hl) (fun i x v h1 h2=> ?_);rw[List.getElem?_map]at h1;obtain⟨y,hy,rfl⟩:=Option.map_eq_some_iff.1 h1;rw[List.getElem?_map]at hy;obtain⟨z,hz,rfl⟩:=Option.map_eq_some_iff.1 hy;exact s6 (gJ hW (fun _ _ h=>h) 4 z v (h i z v hz h2))
 |_=>exact s6 (gJ hW (fun _ _ h=>h) 4 _ v h)
theorem Hu {r:Option (Out×ab)} {q:PR} (h:ef r=some q):∃o H',r=some (o,H')/\∀(V:View) (W W':World) (V':View) (e:Ending),
   bO W ⟨V.imm,fun _=>none⟩ V'->WR P W V' H' W'->yK V' o e->fG V W q e W':=by
 unfold ef at h;split at h
 . rename_i v H';split at h
   . rename_i hf;cases h;refine⟨_,_,rfl,fun V W W' V' e g1 g2 g3=>⟨(eP V' H' W').imm,g2.below,iq g2,fun p v hp=>(ig V' H' W').imm p v (g1.le.imm p v hp),fun p v hp=> ?_, ?_⟩⟩
     . rcases sJ g2 hp with hp|hp
       . exact g1.new p v hp
       . exact .inr hp
     . cases e with
       |returned u=>exact(JA g2 g3).hf hf (fun _ _ h=>h)
       |panicked _=>exact g3.elim
       |outgrown=>exact g3.elim
   . cases h
 . rename_i c H';have hp:aB (some (.pan c,H'))=some q:=h;exact mC hp
 . cases h
theorem Iz {m:Nat} {r:Option (Out×ab)} {q:PR} (h:oj m r=some q):∃o H',r=some (o,H')/\∀(V:View) (W W':World) (V':View) (e:Ending),
   bO W ⟨V.imm,fun _=>none⟩ V'->WR P W V' H' W'->yK V' o e->fG V W q e W':=by
 unfold oj at h;split at h
 . exact JJ h
 split at h
 . exact Hu h
 . exact mC h
theorem Ge (hi:∀p v,V.imm p=some v->W.cell? p=some v/\v.oneCell'=true) (hgl:ka W):WR P W ⟨V.imm,fun _=>none⟩ [] W:=
 ⟨Below.refl _ _,hi,fun id o h=>by simp at h,fun id id' o o' b h=>by simp at h,fun _ _=>rfl,hgl⟩
theorem vU:∀(ps:List Nat) (args:List AV) (us:List Value) (tm:List AV) (tmps:Array Value),aj V args us->aj V tm tmps.toList→
   aj V (ij tm ps args) ((ps.zip us).foldl (fun t (x:Nat×Value)=>t.setIfInBounds x.1 x.2) tmps).toList
 |[],_,_,tm,tmps,_,hT=>by simpa[ij] using hT
 | p::ps,[],us,tm,tmps,hr,hT=>by
   have:us=[]:=List.eq_nil_of_length_eq_zero (by rw[<-hr.1];rfl);subst this;simpa[ij] using hT
 | p::ps,x::xs,us,tm,tmps,hr,hT=>by
   match us,hr with
   | u::us,hr=>
     simp only[ij,List.zip_cons_cons,List.foldl_cons]
     exact vU ps xs us _ _ hr.tail (by
       have:=hT.set p hr.head
       simpa using this)
theorem xB {b:Nat} {lr:Loop} (hW:WR P w0 V H W) (hh:W.heap[b]? =some (.loop lr)) (o:Obj):∀p v,V.imm p=some v->({W with heap:=W.heap.setIfInBounds b o}:World).cell? p=some v:=by
 intro p v hp;obtain⟨hc,_⟩:=hW.imm p v hp;refine(cB W b o).cell hc (fun e=> ?_);simp only[Option.some.injEq]at e;unfold World.cell? at hc;rw[e,hh]at hc;cases hc
theorem nY {b:Nat} {lr:Loop} (hh:W.heap[b]? =some (.loop lr)) (o:Obj):(setObj b o).run P W= .ok () {W with heap:=W.heap.setIfInBounds b o}:=by simp[setObj,Sem.run,hh]
theorem MZ {cb:CB} (hcb:fD P cb) {id:Nat} {args:List AV} {o:Out} {H':ab} {b:Nat} {us:Array Value} (hW:WR P w0 V H W) (hb:V.loc id=some (.blk b)) (hr:aj V args us.toList)
   (h:ylA cb id args H=some (o,H')):∃f tmps assign body,(Instr.yield b us).run P W= .ok (.round b f tmps assign body) W/\RoundIn (Fk none) 0 P b f tmps assign body W (fL P w0 V H' o):=by
 unfold ylA at h;split at h
 . rename_i pend0 tm ps as bd hrl;split at h
   . rename_i hpl;obtain⟨b',lr,hb',hge,hh,j1,j2,j3,j4,j5,j6⟩:=hW.obj id _ (cN hrl);rw[hb]at hb';cases hb'
     have hsz:us.size=lr.params.size:=by
       have h1:=hr.1
       have h2:lr.params.toList.length=args.length:=by rw[j4];exact hpl
       simp at h1 h2;omega
     have hy:(Instr.yield b us).run P W= .ok (.round b lr.fn ((lr.params.zip us).foldl (fun tmps (x:Nat×Value)=>tmps.setIfInBounds x.1 x.2) lr.tmps) lr.assign lr.body) W:=by
       simp only[Instr.yield,Sem.run_bind,fY hh,Result.andThen_ok,hsz,ne_eq,not_true_eq_false,if_false,Sem.run_pure]
     refine⟨_,_,_,_,hy,roundIn_of_wpIn trivial ?_⟩
     have hT:aj V (ij tm ps args) ((lr.params.zip us).foldl (fun tmps (x:Nat×Value)=>tmps.setIfInBounds x.1 x.2) lr.tmps).toList:=by
       have:=vU ps args us.toList tm lr.tmps hr j3;rw[<-j4]at this;rw[<-Array.foldl_toList,Array.toList_zip,j4];rw[j4]at this;exact this
     have hF0:FrR V {tm:=ij tm ps args,df:=[]} {tmps:=(lr.params.zip us).foldl (fun tmps (x:Nat×Value)=>tmps.setIfInBounds x.1 x.2) lr.tmps,defers:=[]}:=⟨hT,trivial⟩;split at h
     . rename_i fr1 H1 hrun1;split at h
       . rename_i pend tm1 ps1 as1 bd1 hrl1;refine gQ hcb (some id) lr.assign as j5 w0 (some b) V _ H _ W _ _ hrun1 hb hF0 hW (fun V1 a1 W1 ex g1 w1 f1 e1=> ?_)
         cases ex<;>try exact e1.elim
         have hb1:=g1.le.loc _ _ hb;obtain⟨b',lr1,hb',hge1,hh1,i1,i2,i3,i4,i5,i6⟩:=w1.obj id _ (cN hrl1);rw[hb1]at hb';cases hb'
         have hbeg:(Instr.beginRound b).run P W1= .ok () {W1 with heap:=W1.heap.setIfInBounds b (.loop {lr1 with state:= .busy})}:=by
           simp only[Instr.beginRound,Sem.run_bind,fY hh1,Result.andThen_ok,nY hh1,i1,LM];rfl
         refine⟨_,hbeg, ?_⟩
         have w2:=w1.upd (o':= .loop 1 pend tm1 ps1 as1 bd1) (cN hrl1) rfl (by simp[aK,hb1]:aK V1 id=some b) (cB W1 b _) (xB w1 hh1 _)
           ⟨b,{lr1 with state:= .busy},hb1,hge1,gM hh1 _,rfl,i2,i3,i4,i5,i6⟩ (fun _=>trivial)
         split at h
         . rename_i e fr2 H2 hrun2;refine gQ hcb (some id) lr.body bd j6 w0 (some b) V1 _ _ _ _ _ _ hrun2 hb1 f1 w2 (fun V2 a2 W2 ex2 g2 w3 f2 e2=> ?_);have hb2:=g2.le.loc _ _ hb1
           have fin:∀(st:Nat) (pend2 pendN:Ex) (tm2:List AV) (ps2:List Nat) (as2 bd2:aH) (st':Nat) (jump:Option Code),ca H2 id=some (st,pend2,tm2,ps2,as2,bd2)→
               LM st'=(if jump.isNone then .ready else .done)->jump=C0 pendN->some (Out.ret (.bool jump.isNone),H2.set id (.loop st' pendN tm2 ps2 as2 bd2))=some (o,H')→
               ∃v w',(Instr.endRound b jump).run P W2= .ok v w'/\fL P w0 V H' o (.returned v) w':=by
             intro st pend2 pendN tm2 ps2 as2 bd2 st' jump hrl2 hst hj heq;cases heq;obtain⟨b',lr2,hb',hge2,hh2,k1,k2,k3,k4,k5,k6⟩:=w3.obj id _ (cN hrl2);rw[hb2]at hb';cases hb'
             have hend:(Instr.endRound b jump).run P W2= .ok (.bool jump.isNone) {W2 with heap:=W2.heap.setIfInBounds b (.loop {lr2 with state:=if jump.isNone then .ready else .done,pending:=jump})}:=by
               simp only[Instr.endRound,Sem.run_bind,fY hh2,Result.andThen_ok,nY hh2,Sem.run_pure]
             refine⟨_,_,hend,V2,g1.trans g2,w3.upd (o':= .loop st' pendN tm2 ps2 as2 bd2) (cN hrl2) rfl (by simp[aK,hb2]:aK V2 id=some b) (cB W2 b _) (xB w3 hh2 _)
               ⟨b,{lr2 with state:=if jump.isNone then .ready else .done,pending:=jump},hb2,hge2,gM hh2 _,hst.symm,hj,k3,k4,k5,k6⟩ (fun _=>trivial),.bool _⟩
           split at h
           . rename_i hrl2
             cases ex2<;>try exact e2.elim
             exact fin _ _ .normal _ _ _ _ 0 none hrl2 rfl rfl h
           . rename_i hrl2
             cases ex2<;>try exact e2.elim
             exact fin _ _ .ret _ _ _ _ 2 (some .ret) hrl2 rfl rfl h
           . rename_i j _ _ _ _ _ _ _ hrl2
             cases ex2<;>try exact e2.elim
             cases e2;exact fin _ _ (.exit j) _ _ _ _ 2 (some (.exit j)) hrl2 rfl rfl h
           . rename_i j _ _ _ _ _ _ _ hrl2
             cases ex2<;>try exact e2.elim
             cases e2;exact fin _ _ (.goto j) _ _ _ _ 2 (some (.goto j)) hrl2 rfl rfl h
           . cases h
         . cases h
       . cases h
     . cases h
   . cases h
 . cases h
theorem IX {tab:FuncId->Option an} (htab:ia P tab) {cb:CB} (ih:fD P cb):fD P (s9 tab cb):=by
 refine⟨?_, ?_, ?_, ?_, ?_⟩
 . intro f args r h V W us hi hgl hr;have h:pcA tab cb f args=some r:=h;unfold pcA at h;split at h
   . rename_i fi hfi;split at h
     . rename_i g hg;exact(htab f fi hfi).2.1 g hg args r h V W us hi hgl hr
     split at h
     . rename_i hcnd
       have hcnd2:hfL (args.map aC)=true:=by
         unfold bF at hcnd;split at hcnd
         . cases hcnd
         . exact hcnd
         . exact hcnd
         . exact hcnd
         . exact hcnd
         . rw[Bool.and_eq_true]at hcnd;exact hcnd.2
       obtain⟨⟨fn,p,hf,hc⟩,_⟩:=htab f fi hfi
       obtain⟨o,H',hbody,hpost⟩:∃o H',fR tab cb fi (args.map aC) []=some (o,H')/\∀(V:View) (W W':World) (V':View) (e:Ending),bO W ⟨V.imm,fun _=>none⟩ V'->WR P W V' H' W'->yK V' o e->fG V W r e W':=by
         exact Iz (P:=P) h
       have hr0:aj (⟨V.imm,fun _=>none⟩:View) (args.map aC) us.toList:=(CR hr).hf hcnd2 (fun _ _ h=>h);obtain⟨k1,k2⟩:=zC (w0:=W) ih htab hf hc hr0 (Ge hi hgl) hbody;refine⟨k1,k2.mono ?_⟩
       rintro e W' ⟨V',g1,g2,g3⟩
       exact hpost V W W' V' e g1 g2 g3
     . cases h
   . cases h
 . intro f args H o H' h w0 V W us hW hr;have h:icA tab cb f args H=some (o,H'):=h;unfold icA at h;split at h
   . rename_i fi hfi;split at h
     . cases h
     . split at h
       . rename_i g hg;exact(htab f fi hfi).2.2 g hg args H o H' h w0 V W us hW hr
       . obtain⟨⟨fn,p,hf,hc⟩,_⟩:=htab f fi hfi;exact zC ih htab hf hc hr hW h
   . cases h
 . intro id args H o H' h w0 V W b us hW hb hr;exact MZ ih hW hb hr h
 . intro rd c ac hc;exact Al ih hc (gQ ih rd c ac hc)
 . intro rd c w x ax hc hx;exact xP ih hc (gQ ih rd x ax hx)
theorem kE {tab:FuncId->Option an} (htab:ia P tab):∀n,fD P (cbs tab n)
 |0=>⟨fun _ _ _ h=>(by cases h),fun _ _ _ _ _ h=>(by cases h),fun _ _ _ _ _ h=>(by cases h),fun _ _ _ _=>(by intro _ _ _ _ _ _ _ _ _ h;cases h),fun _ _ _ _ _ _ _=>(by intro _ _ _ _ _ _ _ _ _ h;cases h)⟩
 |n+1=>IX htab (kE htab n)
end Go.Am
