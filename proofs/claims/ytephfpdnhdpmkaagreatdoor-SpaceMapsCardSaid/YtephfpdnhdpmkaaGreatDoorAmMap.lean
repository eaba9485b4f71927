/- RANGES OVER MAPS, in whatever order: a loop whose rounds keep what is said of those that came. No condition but those stated. -/
import Derived.Test.YtephfpdnhdpmkaaGreatDoorAmTop
import Derived.Maps.RangeRun
open Int (reduceEq)
open Nat (reduceEqDiff reduceAdd reduceMul reduceLT reduceLeDiff)
set_option linter.all false
namespace Go.Am
open Go Go.RowKit
open Go.ChangeMaps (setBlock)
set_option linter.unusedSectionVars false
variable [dy] {P:Program} {w0:World} {V:View} {H:ab} {W:World} {a:Act}
theorem uy {ro:Option Nat} {ops:Array Oper} {Q:Exit->Act->World->Prop} {o:Oper} {l:List Oper} {u:Value} {W':World} (hg:o.guard=none) (hd:∀c,o.op≠ .defer c)
   (h:(execOp a.eval o).run P W= .ok (.value u) W') (hn:wpListIn (Fk ro) 0 P ops Q l (a.put o.dst u) W'):wpListIn (Fk ro) 0 P ops Q (o::l) a W:=by
 show if Region.wanted o (yielded ops a.tmps)then o.wpIn (Fk ro) 0 P a W (fun a w=>wpListIn (Fk ro) 0 P ops Q l a w) Q else _
 have:Region.wanted o (yielded ops a.tmps)=true:=by simp[Region.wanted,hg]
 rw[if_pos this];refine⟨fun _ _=>trivial, ?_⟩;rw[Oper.semAt_eq _ _ _ hd,h,Oper.uponIn_value];exact hn
theorem zf {cb:CB} (hcb:fD P cb) {ops:Array Oper} {Q:Exit->Act->World->Prop} {fr1:Fr} {H1:ab} {l2:List Oper}:∀(l:List Oper) (os:List ai) (V:View) (fr:Fr) (H:ab) (a:Act) (W:World),
   cK (dE P ops) l=some os->FrR V fr a->WR P w0 V H W->aU cb none os fr H=some (.normal,fr1,H1)→
   (∀V' a' W',bO w0 V V'->WR P w0 V' H1 W'->FrR V' fr1 a'->wpListIn (Fk none) 0 P ops Q l2 a' W')->wpListIn (Fk none) 0 P ops Q (l++l2) a W:=by
 intro l
 induction l with
 | nil=>
   intro os V fr H a W hm hF hW h hQ;cases hm;cases h;exact hQ V a W (.refl w0 V) hW hF
 | cons o l ih=>
   intro os V fr H a W hm hF hW h hQ;simp only[cK]at hm;split at hm
   . rename_i ao os' h1 h2;cases hm;exact uW hcb (rd:=none) (ro:=none) trivial h1 hF hW h (fun V' a' W' fr' H' g1 g2 g3 g4=>ih os' V' fr' H' a' W' h2 g3 g2 g4 fun V'' a'' W'' k1=>hQ V'' a'' W'' (g1.trans k1)) (fun e=>absurd rfl e)
   . cases hm
theorem filter_lt {p q:Nat->Bool}:∀(l:List Nat),(∀x,q x=true->p x=true)->∀i∈l,p i=true->q i=false->(l.filter q).length<(l.filter p).length
 |[],_,i,hi,_,_=>by cases hi
 | x::l,h,i,hi,hp,hq=>by
   have le:∀l:List Nat,(l.filter q).length<=(l.filter p).length:=fun l=>by
     rw[<-List.countP_eq_length_filter,<-List.countP_eq_length_filter]
     exact List.countP_mono_left fun x _=>h x
   rcases List.mem_cons.1 hi with rfl|hi
   . rw[List.filter_cons_of_pos hp,List.filter_cons_of_neg (by rw[hq];exact Bool.false_ne_true),List.length_cons];exact Nat.lt_succ_of_le (le l)
   . have ih:=filter_lt l h i hi hp hq;by_cases h1:p x=true
     . rw[List.filter_cons_of_pos h1,List.length_cons]
       rcases Bool.eq_false_or_eq_true (q x)with h2|h2
       . rw[List.filter_cons_of_pos h2,List.length_cons];omega
       . rw[List.filter_cons_of_neg (by rw[h2];exact Bool.false_ne_true)];omega
     . have h2:¬q x=true:=fun e=>h1 (h x e)
       rw[List.filter_cons_of_neg h1,List.filter_cons_of_neg h2];exact ih
def r7 (n r:Nat) (w:World):Nat:=
 match w.heap[r]? with
 |some (.mapIter _ _ seen _)=>((List.range n).filter fun i=> !seen.contains i).length
 |_=>0
def Go.Code.sub:List Nat->Code->Code
 |0::r,.seq x _=>Go.Code.sub r x
 |_::r,.seq _ y=>Go.Code.sub r y
 |_::r,.block _ x=>Go.Code.sub r x
 |_::r,.loop x=>Go.Code.sub r x
 |_,c=>c
def Go.Code.opsOf:Code->Array Oper
 | .region _ o _=>o
 |_=> #[]
def Go.Func.code (f:Func):Code:=f.body.getD .skip
structure Ir (P:Program) (c:Code) (os1:List ai) (x':X) (it nx mo pr:Nat) (os3:List ai) (nxt:Nat) (abd:aH) where
 i1:Nat
 i2:Nat
 i3:Nat
 out:Nat
 tJ:Array Oper
 Bp:Array Oper
 Cl:Array Oper
 o1:Oper
 o2:Oper
 o3:Oper
 l2:List Oper
 l3:List Oper
 bd:Code
 t:TypeId
 kt:TypeId
 et:TypeId
 x:Operand
 hc:c= .seq (.region i1 tJ false) (.block out (.loop (.seq (.region i2 Bp false) (.seq (.cond (.tmp mo) .skip (.exit out)) (.block nxt (.seq (.region i3 Cl false) bd))))))
 a1:tJ.toList.getLast? =some o1
 a2:cK (dE P tJ) tJ.toList.dropLast=some os1
 a3:o1.op= .range t x
 a4:o1.guard=none
 a5:o1.dst=some it
 a6:cX x=some x'
 a7:P.underlying t=some (.map kt et)
 b1:Bp.toList=o2::l2
 b2:cK (dE P Bp) l2=some [⟨some mo,.ext (.t nx) 0,none⟩]
 b3:o2.op= .next (.tmp it) false
 b4:o2.guard=none
 b5:o2.dst=some nx
 c1:Cl.toList=o3::l3
 c2:cK (dE P Cl) l3=some os3
 c3:o3.op= .entry (.tmp it)
 c4:o3.guard=none
 c5:o3.dst=some pr
 c6:bq P bd=some abd
theorem rf {V:View} {r b n:Nat} {seen:Array Nat} {c0:Nat} {w1:World} (hW:WR P w0 V H W) (h1:w1=W∨w1=W.drew) (hr:W.heap[r]? =some (.mapIter (some b) n seen c0)) (o:Obj):
   W.grownBy (setBlock w1 r o) (some r)/\(setBlock w1 r o).heap[r]? =some o/\∀p v,V.imm p=some v->(setBlock w1 r o).cell? p=some v:=by
 have hg:W.grownBy (setBlock w1 r o) (some r):=by
   rcases h1 with rfl|rfl<;>exact⟨rfl,rfl,rfl,by simp[setBlock],fun k _ hk=>by show(Array.setIfInBounds _ r o)[k]? =_;simp[Array.getElem?_setIfInBounds,show¬r=k from fun e=>hk (by rw[e])];try rfl⟩
 refine⟨hg, ?_,fun p v hp=> ?_⟩
 . rcases h1 with rfl|rfl<;>exact(MapKept.heap_set (by exact hr)).1
 . have hne:p.block≠r:=fun e=>by
     have hcell:=(hW.imm p v hp).1;unfold World.cell? at hcell;rw[e,hr]at hcell;cases hcell
   exact hg.cell (hW.imm p v hp).1 (by simpa using hne)
theorem lZ {fr:Fr} (hF:FrR V fr a) {i:Nat} {v:AV} (h:fr.tm[i]? =some v):Rep V v (a.eval (.tmp i)):=by
 obtain⟨u,hu,hru⟩:=hF.tm.get h
 have:a.eval (.tmp i)=u:=by
   show a.tmps.getD i undef=_
   have:a.tmps[i]? =some u:=by simpa using hu
   rw[Array.getD_eq_getD_getElem?,this];rfl
 rw[this];exact hru
theorem Stm.nodup {ents:Array MapEntry} {clk:Nat} (h:Stm ents clk):(ents.toList.map (·.born)).Nodup:=by
 have:ents.toList.map (·.born)=List.range ents.size:=by
   apply List.ext_getElem?;intro i;rw[List.getElem?_map,Array.getElem?_toList];by_cases hi:i<ents.size
   . rw[Array.getElem?_eq_getElem hi,List.getElem?_range hi,Option.map_some,h.2 i _ (Array.getElem?_eq_getElem hi)]
   . rw[Array.getElem?_eq_none (by omega),List.getElem?_eq_none (by simp;omega)];rfl
 rw[this];exact List.nodup_range
theorem HN {cb:CB} (hcb:fD P cb) {c:Code} {os1:List ai} {x':X} {it nx mo pr:Nat} {os3:List ai} {nxt:Nat} {abd:aH} (R:Ir P c os1 x' it nx mo pr os3 nxt abd)
   {fr fr1:Fr} {H1:ab} {Q:Exit->Act->World->Prop} {m:Nat} {es:List (AV×AV)} (hF:FrR V fr a) (hW:WR P w0 V H W)
   (hpre:aU cb none os1 fr H=some (.normal,fr1,H1)) (hx:x'.ev fr1.tm= .mp m) (hm:H1[m]? =some (.map es))
   (A:List Nat->Fr->ab->Prop)
   (hA0:∀o,A [] {fr1 with tm:=fr1.tm.set it (.ptr H1.length 0)} (H1++[.raw o]))
   (hA:∀vis fr H,A vis fr H->fr.tm[it]? =some (.ptr H1.length 0)/\(∃o,H[H1.length]? =some (.raw o))/\H[m]? =some (.map es)/\nx<fr.tm.length/\mo<fr.tm.length)
   (hne:it≠nx/\it≠mo)
   (hstep:∀vis fr H i k v o,A vis fr H->i∉vis->es[i]? =some (k,v)->∃e fr' H',(e= .normal∨e= .exit nxt)∧
     aN cb none (.seq (.region os3) abd) {fr with tm:=((fr.tm.set nx (.tup [.bool true,k,v])).set mo (.bool true)).set pr (.tup [k,v])} (H.set H1.length (.raw o))=some (e,fr',H')/\H'[H1.length]? =some (.raw o)/\A (i::vis) fr' H')
   (hend:∀vis fr H V' a' W',A vis fr H->(∀i,i<es.length->i∈vis)->bO w0 V V'->WR P w0 V' H W'->FrR V' {fr with tm:=(fr.tm.set nx (.tup [.bool false])).set mo (.bool false)} a'->Q .normal a' W'):
   c.wpIn (Fk none) 0 P Q a W:=by
 obtain⟨i1,i2,i3,out,tJ,Bp,Cl,o1,o2,o3,l2,l3,bd,t,kt,et,x,rfl,a1,a2,a3,a4,a5,a6,a7,b1,b2,b3,b4,b5,c1,c2,c3,c4,c5,c6⟩:=R;generalize V=V0 at*;refine wpIn_seq ?_;refine wpIn_region_list ?_
 have hl:tJ.toList=tJ.toList.dropLast++[o1]:=by
   obtain⟨ys,hys⟩:=List.getLast?_eq_some_iff.1 a1;rw[hys,List.dropLast_concat]
 rw[hl];refine zf hcb _ os1 V0 fr H a W a2 hF hW hpre ?_;intro V a W g1 hW hF;obtain⟨b,hb,hlb⟩:=uL (show Rep V (.mp m) (a.eval x)by rw[<-hx];exact aM hF.tm a6);obtain⟨b',ents,clk,hb',hge,hh,hk1,hk2,hst⟩:=hW.obj m _ hm;rw[hlb]at hb';cases hb'
 have hn:ents.size=es.length:=by have:=hk1.1;simp at this;exact this.symm
 have hclk:clk=es.length:=hst.1.trans hn;refine uy a4 (by rw[a3];intro c h;cases h) (u:= .pointer (some ⟨W.heap.size,0,none⟩)) (W':=W.alloc (.mapIter (some b) clk #[] clk)) ?_ ?_
 . have:=run_range_map (P:=P) W t kt et b ents clk a7 hh;rw[<-hb]at this;simpa[execOp,a3] using cP this
 obtain⟨g2,hW2⟩:=hW.newObj (o:= .raw (.mapIter (some b) clk #[] clk)) (ob:= .mapIter (some b) clk #[] clk) ⟨W.heap.size,View.b8 _ _ _,hW.size,heap_alloc_new W _⟩;have hself:(V.at H1.length (.blk W.heap.size)).loc H1.length=some (.blk W.heap.size):=View.b8 _ _ _;have hF2:FrR (V.at H1.length (.blk W.heap.size)) {fr1 with tm:=bV fr1.tm o1.dst (.ptr H1.length 0)} (a.put o1.dst (.pointer (some ⟨W.heap.size,0,none⟩))):=bJ hF g2.le (.ptr (by simp[aK,hself])) _;have hlm:(V.at H1.length (.blk W.heap.size)).loc m=some (.blk b):=g2.le.loc _ _ hlb;generalize V.at H1.length (.blk W.heap.size)=V2 at*;generalize hr:W.heap.size=r at*;generalize W.alloc (.mapIter (some b) clk #[] clk)=W2 at*;rw[a5]at hF2 ⊢;have g12:=g1.trans g2;generalize a.put (some it) (.pointer (some ⟨r,0,none⟩))=aa at*;show Exit.then _ _ .normal aa W2
 show(Code.block out _).wpIn _ _ _ _ _ _
 refine wpIn_block ?_
 refine wpIn_loop (fun a' W'=>∃V' fr H vis seen c0,bO w0 V0 V'/\WR P w0 V' H W'/\FrR V' fr a'/\A vis fr H/\V'.loc m=some (.blk b)/\V'.loc H1.length=some (.blk r)/\H[H1.length]? =some (.raw (.mapIter (some b) es.length seen c0))/\es.length<=c0/\∀i,seen.contains i=true↔i∈vis)
   (fun _ w=>r7 es.length r w) ?_ ?_
 . refine⟨V2,_,_,[],#[],clk,g12,hW2,hF2,hA0 _,hlm,hself, ?_,Nat.le_of_eq hclk.symm,by simp⟩
   rw[List.getElem?_append_right (Nat.le_refl _),Nat.sub_self,hclk];rfl
 clear hF2 hW2 hF hW hk1 hk2 hh hst hb hx
 rintro a' W' ⟨V',fr,H,vis,seen,c0,k1,hW,hF,hAv,k2,k3,k4,k5,k6⟩
 obtain⟨t1,_,t3,t4,t5⟩:=hA _ _ _ hAv;obtain⟨b',ents,clk',hb',hge',hh,hk1,hk2,hst⟩:=hW.obj m _ t3;rw[k2]at hb';cases hb';obtain⟨r',hr',_,hit⟩:=hW.obj _ _ k4;rw[k3]at hr';cases hr'
 have hn:ents.size=es.length:=by have:=hk1.1;simp at this;exact this.symm
 have hclk:clk'=es.length:=hst.1.trans hn
 have hold:∀y∈ents.toList,y.born<es.length:=fun y hy=>by
   obtain⟨i,hi,e⟩:=List.mem_iff_getElem.1 hy;have:=hst.2 i y (by rw[<-e];simp at hi;simp[hi]);simp at hi;omega
 refine wpIn_seq ?_;refine wpIn_region_list ?_;rw[b1]
 have hev:a'.eval (.tmp it)= .pointer (some ⟨r,0,none⟩):=by
   obtain⟨bb,e1,e2⟩:=gT (lZ hF t1);rw[show aK V' H1.length=some r by simp[aK,k3]]at e2;cases e2;exact e1
 rcases run_next_at (P:=P) W' o2.type r b es.length c0 seen ents clk' hit hh hold k5 with⟨h0,hrun⟩|⟨e,he,w1,hal,hrun⟩
 . --nothing is left
   refine uy b4 (by rw[b3];intro c h;cases h) (u:= .tuple #[.bool false]) (W':=W') ?_ ?_
   . simpa[execOp,b3,hev] using cP hrun
   rw[b5];have hF':FrR V' {fr with tm:=fr.tm.set nx (.tup [.bool false])} (a'.put (some nx) (.tuple #[.bool false])):=bJ hF (View.Le.refl _) (v:= .tup [.bool false]) (by exact Rep.om (aj.cons (.bool false) (aj.nil _))) (some nx);refine jO hcb (rd:=none) (ro:=none) l2 _ V' _ H _ W' trivial b2 hF' hW (r:=(.normal,{fr with tm:=(fr.tm.set nx (.tup [.bool false])).set mo (.bool false)},H)) ?_ ?_
   . simp[aU,bC,aT,X.ev,List.getElem?_set,t4,bV]
   intro V'' a'' W'' ex g3 hW3 hF3 hex
   cases ex<;>try exact hex.elim
   show Code.wpIn _ _ _ _ _ _ _
   refine wpIn_seq ?_;refine wpIn_cond_false ?_ (wpIn_exit ?_)
   . have:=lZ hF3 (i:=mo) (v:= .bool false) (by simp[t5])
     cases hu:a''.eval (.tmp mo)<;>rw[hu]at this<;>cases this
     rfl
   show Exit.inBlock out Q (.exit out) a'' W''
   simp only[Exit.inBlock,if_true];refine hend vis fr H V'' a'' W'' hAv (fun i hi=> ?_) (k1.trans g3) hW3 hF3
   have hi':i<ents.size:=by omega
   have:=all_seen ents seen h0 ents[i] (by simp);rw[hst.2 i _ (Array.getElem?_eq_getElem hi')]at this;exact(k6 i).1 this
 . --one more
   obtain⟨hem,hes⟩:=mem_left he;obtain⟨i,hi,rfl⟩:=List.mem_iff_getElem.1 hem
   have hi':i<ents.size:=by simpa using hi
   have hborn:ents[i].born=i:=hst.2 i _ (Array.getElem?_eq_getElem hi');rw[Array.getElem_toList]at*;rw[hborn]at hrun hes
   have hvis:i∉vis:=fun h=>by rw[(k6 i).2 h]at hes;cases hes
   obtain⟨kv,hkv⟩:∃kv,es[i]? =some kv:=⟨_,List.getElem?_eq_getElem (by omega)⟩;obtain⟨k,v⟩:=kv
   have rk:Rep V' k ents[i].key:=by
     obtain⟨u,h1,h2⟩:=hk1.get (show(es.map (·.1))[i]? =some k by simp[hkv]);simp[hi']at h1
     rw[h1];exact h2
   have rv:Rep V' v ents[i].val:=by
     obtain⟨u,h1,h2⟩:=hk2.get (show(es.map (·.2))[i]? =some v by simp[hkv]);simp[hi']at h1
     rw[h1];exact h2
   refine uy b4 (by rw[b3];intro c h;cases h) (u:= .tuple #[.bool true,ents[i].key,ents[i].val]) (W':=setBlock w1 r (.mapIter (some b) es.length (seen.push i) clk')) ?_ ?_
   . simpa[execOp,b3,hev] using cP hrun
   obtain⟨s1,s2,s3⟩:=rf hW hal hit (.mapIter (some b) es.length (seen.push i) clk')
   have hge:w0.heap.size<=r:=by
     obtain⟨_,q1,q2,_⟩:=hW.obj _ _ k4
     rw[k3]at q1;cases q1;exact q2
   have hW2:=hW.upd k4 rfl (show aK V' H1.length=some r by simp[aK,k3]) s1 s3 (o':= .raw (.mapIter (some b) es.length (seen.push i) clk')) ⟨r,k3,hge,s2⟩ (fun _=>trivial);rw[b5];have hF':FrR V' {fr with tm:=fr.tm.set nx (.tup [.bool true,k,v])} (a'.put (some nx) (.tuple #[.bool true,ents[i].key,ents[i].val])):=bJ hF (View.Le.refl _) (v:= .tup [.bool true,k,v]) (by exact Rep.om (aj.cons (.bool true) (aj.cons rk (aj.cons rv (aj.nil _))))) (some nx);obtain⟨en,fr',H',hen,hrn,hraw,hA'⟩:=hstep vis fr H i k v (.mapIter (some b) es.length (seen.push i) clk') hAv hvis hkv;generalize setBlock w1 r (.mapIter (some b) es.length (seen.push i) clk')=W2 at*;refine jO hcb (rd:=none) (ro:=none) l2 _ V' _ _ _ W2 trivial b2 hF' hW2 (r:=(.normal,{fr with tm:=(fr.tm.set nx (.tup [.bool true,k,v])).set mo (.bool true)},H.set H1.length (.raw (.mapIter (some b) es.length (seen.push i) clk')))) ?_ ?_
   . simp[aU,bC,aT,X.ev,List.getElem?_set,t4,bV]
   intro V3 a3 W3 ex g3 hW3 hF3 hex
   cases ex<;>try exact hex.elim
   show Code.wpIn _ _ _ _ _ _ _
   refine wpIn_seq ?_;refine wpIn_cond_true ?_ (wpIn_skip ?_)
   . have:=lZ hF3 (i:=mo) (v:= .bool true) (by simp[t5])
     cases hu:a3.eval (.tmp mo)<;>rw[hu]at this<;>cases this
     rfl
   show(Code.block nxt _).wpIn _ _ _ _ _ _
   refine wpIn_block (wpIn_seq (wpIn_region_list ?_));rw[c1];have hit3:fr.tm[it]? =some (.ptr H1.length 0):=t1
   have hev3:a3.eval (.tmp it)= .pointer (some ⟨r,0,none⟩):=by
     obtain⟨bb,e1,e2⟩:=gT (lZ hF3 (i:=it) (v:= .ptr H1.length 0) (by simp[List.getElem?_set,Ne.symm hne.1,Ne.symm hne.2,t1]));rw[show aK V3 H1.length=some r by simp[aK,g3.le.loc _ _ k3]]at e2;cases e2;exact e1
   have hidl:H1.length<H.length:=(List.getElem?_eq_some_iff.1 k4).1
   have hmne:H1.length≠m:=fun e=>by rw[e,t3]at k4;cases k4
   obtain⟨r3,hr3,_,hit4⟩:=hW3.obj H1.length (.raw (.mapIter (some b) es.length (seen.push i) clk')) (by simp[hidl]);rw[g3.le.loc _ _ k3]at hr3;cases hr3;obtain⟨b3',ents3,clk3,hb3',_,hh3,hk31,hk32,hst3⟩:=hW3.obj m (.map es) (by rw[List.getElem?_set,if_neg hmne];exact t3);rw[g3.le.loc _ _ k2]at hb3';cases hb3'
   have hn3:ents3.size=es.length:=by have:=hk31.1;simp at this;exact this.symm
   have hi3:i<ents3.size:=by omega
   have hclk3:clk3=clk':=by rw[hst3.1,hn3,hclk]
   subst hclk3;have hborn3:ents3[i].born=i:=hst3.2 i _ (Array.getElem?_eq_getElem hi3)
   have rk3:Rep V3 k ents3[i].key:=by
     obtain⟨u,h1,h2⟩:=hk31.get (show(es.map (·.1))[i]? =some k by simp[hkv]);simp[hi3]at h1
     rw[h1];exact h2
   have rv3:Rep V3 v ents3[i].val:=by
     obtain⟨u,h1,h2⟩:=hk32.get (show(es.map (·.2))[i]? =some v by simp[hkv]);simp[hi3]at h1
     rw[h1];exact h2
   refine uy c4 (by rw[c3];intro c h;cases h) (u:= .tuple #[ents3[i].key,ents3[i].val]) (W':=W3) ?_ ?_
   . have:=run_entry_at (P:=P) W3 r b es.length seen ents3 clk3 ents3[i] (by rw[hborn3];exact hit4) hh3 (by simp) hst3.nodup;simpa[execOp,c3,hev3] using cP this
   rw[c5];have hF4:FrR V3 {fr with tm:=((fr.tm.set nx (.tup [.bool true,k,v])).set mo (.bool true)).set pr (.tup [k,v])} (a3.put (some pr) (.tuple #[ents3[i].key,ents3[i].val])):=bJ hF3 (View.Le.refl _) (v:= .tup [k,v]) (by exact Rep.om (aj.cons rk3 (aj.cons rv3 (aj.nil _)))) (some pr)
   have fin:∀V4 a4 W4 ex,bO w0 V3 V4->WR P w0 V4 H' W4->FrR V4 fr' a4->ExR V4 en ex->Exit.inBlock nxt (Exit.then (fun a'' W''=>(∃V' fr H vis seen c0,bO w0 V0 V'/\WR P w0 V' H W''/\FrR V' fr a''/\A vis fr H/\V'.loc m=some (.blk b)/\V'.loc H1.length=some (.blk r)/\H[H1.length]? =some (.raw (.mapIter (some b) es.length seen c0))/\es.length<=c0/\∀i,seen.contains i=true↔i∈vis)/\r7 es.length r W''<r7 es.length r W') (Exit.inBlock out Q)) ex a4 W4:=by
     intro V4 a4 W4 ex g4 hW4 hF5 hex
     have key:(∃V' fr H vis seen c0,bO w0 V0 V'/\WR P w0 V' H W4/\FrR V' fr a4/\A vis fr H/\V'.loc m=some (.blk b)/\V'.loc H1.length=some (.blk r)/\H[H1.length]? =some (.raw (.mapIter (some b) es.length seen c0))/\es.length<=c0/\∀i,seen.contains i=true↔i∈vis)/\r7 es.length r W4<r7 es.length r W':=by
       refine⟨⟨V4,fr',H',i::vis,seen.push i,clk3,(k1.trans g3).trans g4,hW4,hF5,hA',g4.le.loc _ _ (g3.le.loc _ _ k2),g4.le.loc _ _ (g3.le.loc _ _ k3),hraw,Nat.le_of_eq hclk.symm,fun j=> ?_⟩, ?_⟩
       . rw[Array.contains_push,Bool.or_eq_true,k6 j,List.mem_cons];simp[or_comm]
       . obtain⟨r5,hr5,_,hit5⟩:=hW4.obj _ _ hraw;rw[g4.le.loc _ _ (g3.le.loc _ _ k3)]at hr5;cases hr5;simp only[r7,hit5,hit];refine filter_lt _ (fun x hx=> ?_) i (by simp;omega) (by rw[hes];rfl) (by simp[Array.contains_push]);simp only[Array.contains_push,Bool.not_or,Bool.and_eq_true]at hx;exact hx.1
     rcases hen with rfl|rfl
     . cases ex<;>try exact hex.elim
       exact key
     . cases ex<;>try exact hex.elim
       have:nxt=_:=hex;subst this;show(if nxt=nxt then _ else _)
       rw[if_pos rfl];exact key
   simp only[aN]at hrn
   cases h3:aU cb none os3 {fr with tm:=((fr.tm.set nx (.tup [.bool true,k,v])).set mo (.bool true)).set pr (.tup [k,v])} (H.set H1.length (.raw (.mapIter (some b) es.length (seen.push i) clk3)))with
   |none=>rw[h3]at hrn;cases hrn
   | some rr=>
     rw[h3]at hrn;refine jO hcb (rd:=none) (ro:=none) l3 _ V3 _ _ _ W3 trivial c2 hF4 hW3 (r:=rr) h3 ?_;intro V4 a4 W4 ex g4 hW4 hF5 hex;obtain⟨e1,f1,H2⟩:=rr
     cases e1 with
     | normal=>
       cases ex<;>try exact hex.elim
       show Code.wpIn _ _ _ _ _ _ _
       exact gQ hcb none bd abd c6 w0 none V4 f1 H2 a4 W4 _ _ hrn trivial hF5 hW4 fun V5 a5 W5 ex5 g5 w5 f5 x5=>fin V5 a5 W5 ex5 (g4.trans g5) w5 f5 x5
     | exit j=>
       cases hrn;have:=fin V4 a4 W4 ex (g4) hW4 hF5 hex
       cases ex<;>first|exact hex.elim|exact this
     |_=>cases hrn;rcases hen with h|h<;>cases h
end Go.Am
