/- THE OPERATIONS THAT LEAVE MEMORY AS IT IS: the model does what the interpreter says. No condition. -/
import Derived.Test.YtephfpdnhdpmkaaGreatDoorAmRep
import Derived.Laws.Tables
import Derived.Great.BuildSlice
set_option linter.all false
namespace Go.Am
open Go Go.RowKit
set_option linter.unusedSectionVars false
variable [dy]
variable {P:Program}
theorem dY {α β:Type} {f:α->Option β}:∀{l:List α} {r:List β},cK f l=some r->l.length=r.length/\∀(i:Nat) (x:α),l[i]? =some x->∃y,f x=some y/\r[i]? =some y
 |[],r,h=>by simp[cK]at h;subst h;simp
 | x::l,r,h=>by
   simp only[cK]at h
   cases hx:f x with
   |none=>simp[hx]at h
   | some y=>
     cases hl:cK f l with
     |none=>simp[hx,hl]at h
     | some ys=>
       simp only[hx,hl,Option.some.injEq]at h;subst h;obtain⟨h1,h2⟩:=dY hl;refine⟨by simp[h1],fun i z hz=> ?_⟩
       cases i with
       |zero=>simp at hz;subst hz;exact⟨y,hx,rfl⟩
       |succ i=>simp at hz;simpa using h2 i z hz
theorem xN {V:View} {v:Value} {a:AV} (h:zu v=some a):Rep V a v:=by
 unfold zu at h
 split at h<;>simp at h<;>subst h
 . exact .bool _
 . exact .int _ _
 . exact .str _
 . exact .cL
 . exact .slnil 0
 . exact .fj
 . exact .cO
 . exact .fI
theorem Ba {V:View} {v:Value} {a:AV} (h:ofC v=some a):Rep V a v:=by
 unfold ofC at h;split at h
 . rename_i cs
   cases hm:cK zu cs.toList with
   |none=>simp[hm]at h
   | some xs=>
     simp only[hm,Option.map_some,Option.some.injEq]at h;subst h;obtain⟨h1,h2⟩:=dY hm
     refine .agg (by simpa using h1.symm) fun i x v hx hv=> ?_
     obtain⟨y,hy,hr⟩:=h2 i v (by simpa using hv);rw[hr]at hx;cases hx;exact xN hy
 . rename_i vs;split at h
   . rename_i hs;simp at h;subst h
     exact .tup (by simpa using hs.symm) fun i x v hx=>by simp at hx
   . cases h
 . exact xN h
theorem El {V:View} {tm:List AV} {us:Array Value} (h:aj V tm us.toList) (i:Nat):Rep V (tm.getD i (.tup [])) (us.getD i Go.undef):=by
 by_cases hi:i<us.size
 . have hi':i<tm.length:=by rw[h.1];simpa using hi
   have:=h.2 i tm[i] us[i] (by simp[hi']) (by simp[hi]);simpa[List.getD,hi',hi] using this
 . have hi':¬i<tm.length:=by rw[h.1];simpa using hi
   have e1:tm.getD i (.tup [])= .tup []:=by simp[List.getD,List.getElem?_eq_none (Nat.le_of_not_lt hi')]
   have e2:us.getD i Go.undef=Go.undef:=by simp[Array.getElem?_eq_none (Nat.le_of_not_lt hi)]
   rw[e1,e2];exact Rep.undef V
theorem aM {V:View} {tm:List AV} {a:Act} (h:aj V tm a.tmps.toList) {o:Operand} {x:X} (hx:cX o=some x):Rep V (x.ev tm) (a.eval o):=by
 unfold cX at hx;split at hx
 . cases hx;exact El h _
 . rename_i v
   cases hv:ofC v with
   |none=>simp[hv]at hx
   | some w=>
     simp only[hv,Option.map_some,Option.some.injEq]at hx;subst hx;exact Ba hv
 . cases hx;exact Rep.fn' (aj.nil V)
 . cases hx
theorem jz {V:View} {tm:List AV} {a:Act} (h:aj V tm a.tmps.toList) {os:Array Operand} {xs:List X} (hx:cK cX os.toList=some xs):
   aj V (xs.map (·.ev tm)) (os.map a.eval).toList:=by
 obtain⟨h1,h2⟩:=dY hx;refine⟨by simpa using h1.symm,fun i x v hxi hv=> ?_⟩;simp only[List.getElem?_map,Option.map_eq_some_iff,Array.toList_map]at hxi hv;obtain⟨y,hy,rfl⟩:=hxi;obtain⟨o,ho,rfl⟩:=hv;obtain⟨y',hy',hr⟩:=h2 i o ho;rw[hr]at hy;cases hy;exact aM h hy'
theorem cz {t:TypeId} {s:Nat} (h:e9 P t=some s) (w:World):(sizeOf t).run P w= .ok s w:=by
 unfold e9 at h
 cases hi:P.info? t with
 |none=>simp[hi]at h
 |some i=>simp[hi]at h;subst h;simp[sizeOf,typeInfo,hi]
theorem mj {t:TypeId} {g:Bool} (h:xT P t=some g) (w:World):(isAgg t).run P w= .ok g w:=by
 unfold xT at h
 cases hu:P.underlying t with
 |none=>simp[hu]at h
 |some d=>cases d<;>simp[hu]at h<;>subst h<;>simp[isAgg,run_underlying hu]
theorem bQ {V:View} {t:TypeId} {z:AV} (h:zeroOf P t=some z):∃v i,P.info? t=some i/\i.zero=some v/\v.cells.size=i.size/\Rep V z v/\∀w,(zeroValue t).run P w= .ok v w:=by
 unfold zeroOf at h
 cases hi:P.info? t with
 |none=>simp[hi]at h
 | some i=>
   cases hz:i.zero with
   |none=>simp[hi,hz]at h
   | some v=>
     simp only[hi,hz]at h;split at h
     . rename_i hs;exact⟨v,i,rfl,hz,hs,Ba h,fun w=>by simp[zeroValue,typeInfo,hi,hz]⟩
     . cases h
theorem dI {t e:TypeId} (h:iH P t=some e):P.underlying t=some (.slice e):=by
 unfold iH at h;split at h
 . rename_i hu;simp at h;subst h;exact hu
 . cases h
theorem bB (b o n:Nat):(⟨b,o,none⟩:Addr).add n=⟨b,o+n,none⟩:=Addr.add_lit b o n
def eC (W:World) (b o:Nat) (vs:List Value):Prop:=∀i v,vs[i]? =some v->W.cell? ⟨b,o+i,none⟩=some v
theorem eC.drop {W:World} {b o:Nat} {vs:List Value} (h:eC W b o vs) (k:Nat):eC W b (o+k) (vs.drop k):=fun i v hv=>by
 rw[List.getElem?_drop]at hv;have:=h _ v hv
 rwa[<-Nat.add_assoc]at this
theorem eC.take {W:World} {b o:Nat} {vs:List Value} (h:eC W b o vs) (k:Nat):eC W b o (vs.take k):=fun i v hv=>by
 rw[List.getElem?_take]at hv;split at hv
 . exact h i v hv
 . cases hv
theorem jb {W:World} {b:Nat} {vs:Array Value} {t:TypeId} {fr:Nat×Nat} (h:W.heap[b]? =some (.cells vs t fr)):eC W b 0 vs.toList:=fun i v hv=>by
 rw[Nat.zero_add];simp only[World.cell?,h];simpa using hv
theorem dH {w0:World} {V:View} {H:ab} {W:World} (hW:WR P w0 V H W) {cs:List AV} {b o:Nat} {f:Nat->Value} (hi:∀i,i<cs.length->V.imm ⟨b,o+i,none⟩=some (f i))
   (h:∀(i:Nat) (x:AV),cs[i]? =some x->Rep V x (f i)):∃vs,aj V cs vs/\eC W b o vs:=by
 refine⟨(List.range cs.length).map f,⟨by simp,fun i x v hx hv=> ?_⟩,fun i v hv=> ?_⟩
 . have hlt:=(List.getElem?_eq_some_iff.1 hx).1;simp[hlt]at hv;subst hv;exact h i x hx
 . by_cases hlt:i<cs.length
   . simp[hlt]at hv;subst hv;exact(hW.imm _ _ (hi i hlt)).1
   . rw[List.getElem?_eq_none (by simp;omega)]at hv;cases hv
theorem pU {cs:List AV} {off sz:Nat} {ag:Bool} {v:AV} (h:dK cs off sz ag=some v):dK (cs.drop off) 0 sz ag=some v:=by
 unfold dK at*
 cases ag with
 | true=>
   simp only[if_true]at*;split at h
   . rename_i hle;simp at h;subst h;rw[if_pos (by simp;omega)];simp
   . cases h
 |false=>simpa using h
theorem kY {V:View} {W:World} {t:TypeId} {sz:Nat} {ag:Bool} (hs:e9 P t=some sz) (hg:xT P t=some ag) {b o:Nat} {cs:List AV} {vs:List Value}
   (hr:aj V cs vs) (hc:eC W b o vs) {v:AV} (h:dK cs 0 sz ag=some v):
   ∃u,(loadVar t ⟨b,o,none⟩).run P W= .ok u W/\Rep V v u:=by
 unfold dK at h
 cases ag with
 | true=>
   simp only[if_true,Nat.zero_add,List.drop_zero]at h;split at h
   . rename_i hle;simp at h;subst h
     have hl:(vs.take sz).length=sz:=by rw[List.length_take,<-hr.1];omega
     have hload:=run_loadCells_list (P:=P) W ⟨b,o,none⟩ (vs.take sz) (fun j u hj=>by
       rw[bB];rw[List.getElem?_take]at hj;split at hj
       . exact hc j u hj
       . cases hj)
     rw[hl]at hload;refine⟨.agg (vs.take sz).toArray, ?_,Rep.HC (hr.take sz)⟩;simp only[loadVar,Sem.run_bind,mj hg,Result.andThen_ok,cz hs,hload,if_true,Sem.run_pure]
   . cases h
 | false=>
   simp only[Bool.false_eq_true,if_false]at h;obtain⟨u,hu,hx⟩:=hr.get h;refine⟨u, ?_,hx⟩;have:=hc 0 u hu;rw[Nat.add_zero]at this;simp only[loadVar,Sem.run_bind,mj hg,Result.andThen_ok,Bool.false_eq_true,if_false,run_load,this]
theorem oL {V:View} {W:World} {t:TypeId} {sz off:Nat} {ag:Bool} (hs:e9 P t=some sz) (hg:xT P t=some ag) {cs:List AV} {vs:Array Value}
   (hr:aj V cs vs.toList) {v:AV} (h:dK cs off sz ag=some v):∃u,(part t vs off).run P W= .ok u W/\Rep V v u:=by
 unfold dK at h
 cases ag with
 | true=>
   simp only[if_true]at h;split at h
   . simp at h;subst h;refine⟨.agg (vs.extract off (off+sz)), ?_, ?_⟩
     . simp only[part,Sem.run_bind,mj hg,Result.andThen_ok,cz hs,if_true,Sem.run_pure]
     . have e:(vs.extract off (off+sz))=((vs.toList.drop off).take sz).toArray:=by
         apply Array.ext';simp[List.extract_eq_take_drop]
       rw[e];exact Rep.HC ((hr.drop off).take sz)
   . cases h
 | false=>
   simp only[Bool.false_eq_true,if_false]at h;obtain⟨u,hu,hx⟩:=hr.get h;refine⟨u, ?_,hx⟩
   have hu':vs[off]? =some u:=by simpa using hu
   simp only[part,Sem.run_bind,mj hg,Result.andThen_ok,Bool.false_eq_true,if_false,hu',Sem.run_pure]
theorem foldl_set (off:Nat):∀(l:List Value) (k:Nat) (cs:Array Value),off+k+l.length<=cs.size→
   ((l.zipIdx k).foldl (fun cs (c,j)=>cs.setIfInBounds (off+j) c) cs).toList=cs.toList.take (off+k)++l++cs.toList.drop (off+k+l.length)
 |[],k,cs,h=>by simp
 | c::l,k,cs,h=>by
   simp only[List.zipIdx_cons,List.foldl_cons];rw[foldl_set off l (k+1) (cs.setIfInBounds (off+k) c) (by simp at h ⊢;omega)]
   have hlt:off+k<cs.toList.length:=by simp at h ⊢;omega
   simp only[Array.toList_setIfInBounds];rw[show off+(k+1)=off+k+1 from by omega,List.drop_set_of_lt (by omega),List.take_add_one,List.take_set_of_le (Nat.le_refl _),List.getElem?_set_self hlt];simp only[Option.toList_some,List.append_assoc,List.length_cons,List.cons_append,List.nil_append];rw[show off+k+1+l.length=off+k+(l.length+1)from by omega]
theorem kM {V:View} (place:Nat->Option (Nat×Nat)):∀(ps:List (Nat×Nat×AV)) (qs:List (Nat×Value)) (cs cs':List AV) (vs:Array Value),aj V cs vs.toList→
   ps.length=qs.length->(∀(i:Nat) (p:Nat×Nat×AV) (q:Nat×Value),ps[i]? =some p->qs[i]? =some q->place q.1=some (p.1,p.2.1)/\Rep V p.2.2 q.2)->dJ cs ps=some cs'->∃vs',Instr.fill place vs qs=some vs'/\aj V cs' vs'.toList
 |[],[],cs,cs',vs,hr,_,_,h=>by simp[dJ]at h;subst h;exact⟨vs,rfl,hr⟩
 |[],_::_,_,_,_,_,hl,_,_=>by simp at hl
 |_::_,[],_,_,_,_,hl,_,_=>by simp at hl
 | (off,sz,x)::ps,(i,u)::qs,cs,cs',vs,hr,hl,hp,h=>by
   obtain⟨h1,h2⟩:=hp 0 (off,sz,x) (i,u) rfl rfl;simp only at h1 h2;simp only[dJ]at h;split at h
   . rename_i hc;obtain⟨hc1,hc2⟩:=hc
     have e1:u.cells.size=sz:=by rw[<-h2.mE];exact hc1
     have e2:vs.size=cs.length:=by have:=hr.1;simp at this;omega
     simp only[Instr.fill,h1];rw[if_neg (by simp[e1];omega)];have hfold:=foldl_set off u.cells.toList 0 vs (by simp;omega)
     have hz:u.cells.zipIdx.foldl (fun cs (c,j)=>cs.setIfInBounds (off+j) c) vs=(u.cells.toList.zipIdx 0).foldl (fun cs (c,j)=>cs.setIfInBounds (off+j) c) vs:=by
       rw[<-Array.foldl_toList];simp
     refine kM place ps qs _ cs' _ ?_ (by simpa using hl) (fun j p q hj hq=>hp (j+1) p q (by simpa using hj) (by simpa using hq)) h;rw[hz,hfold];simp only[Nat.add_zero]
     have e3:u.cells.toList.length=sz:=by simpa using e1
     rw[e3];exact((hr.take off).append h2.flat).append (hr.drop (off+sz))
   . cases h
end Go.Am
