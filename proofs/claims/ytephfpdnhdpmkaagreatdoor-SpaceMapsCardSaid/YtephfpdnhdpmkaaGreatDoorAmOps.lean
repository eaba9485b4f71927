/- THE OPERATIONS THAT LEAVE MEMORY AS IT IS, one by one: the model does what the interpreter says. No condition. -/
import Derived.Test.YtephfpdnhdpmkaaGreatDoorAmVal
open Int (reduceEq)
open Nat (reduceEqDiff reduceAdd reduceMul reduceLT reduceLeDiff)
set_option linter.all false
namespace Go.Am
open Go Go.RowKit
set_option linter.unusedSectionVars false
variable [dy]
variable {P:Program} {w0:World} {V:View} {H:ab} {W:World} {tm:List AV} {a:Act}
theorem cP {S:Sem Value} {u:Value} {W':World} (h:S.run P W= .ok u W'):((do let x<-S;pure (Next.value x)):Sem Next).run P W= .ok (.value u) W':=by
 simp[h]
def e8 (P:Program) (V:View) (W:World) (a:Act) (o:Oper) (v:AV):Prop:=∃u,(execOp a.eval o).run P W= .ok (.value u) W/\Rep V v u
theorem zZ (hT:aj V tm a.tmps.toList) {o:Oper} {x:Operand} {x':X} (hx:cX x=some x') (ho:∀ρ,execOp ρ o=pure (.value (ρ x))):e8 P V W a o (x'.ev tm):=
 ⟨a.eval x,by rw[ho];rfl,aM hT hx⟩
theorem aP {o:Oper} {v:AV} {S:Sem Value} {u:Value} (ho:execOp a.eval o=(do let x<-S;pure (Next.value x))) (h:S.run P W= .ok u W) (hr:Rep V v u):e8 P V W a o v:=
 ⟨u,by rw[ho];exact cP h,hr⟩
theorem dq {t:Bool} {u:Value} (h:Rep V (.bool t) u):u= .bool t:=by cases h;rfl
theorem bu {k:IntKind} {n:Int} {u:Value} (h:Rep V (.int k n) u):u= .int k n:=by cases h;rfl
theorem cR {s:ByteArray} {u:Value} (h:Rep V (.str s) u):u= .string s:=by cases h;rfl
theorem oC {xs:List AV} {u:Value} (h:Rep V (.agg xs) u):∃cs:Array Value,u= .agg cs/\aj V xs cs.toList:=by
 cases h with
 |agg hl h=>exact⟨_,rfl,cY hl h⟩
theorem uV {xs:List AV} {u:Value} (h:Rep V (.tup xs) u):∃cs:Array Value,u= .tuple cs/\aj V xs cs.toList:=by
 cases h with
 |tup hl h=>exact⟨_,rfl,cY hl h⟩
theorem gT {id off:Nat} {u:Value} (h:Rep V (.ptr id off) u):∃b,u= .pointer (some ⟨b,off,none⟩)/\aK V id=some b:=by cases h with|ptr hl=>exact⟨_,rfl,hl⟩
theorem uL {id:Nat} {u:Value} (h:Rep V (.mp id) u):∃b,u= .map (some b)/\V.loc id=some (.blk b):=by cases h with|mp hl=>exact⟨_,rfl,hl⟩
theorem qq (hW:WR P w0 V H W) {cs:List AV} {u:Value} (h:Rep V (.bU cs) u):∃(b o:Nat) (f:Nat->Value),u= .pointer (some ⟨b,o,none⟩)/\(∀i,i<cs.length->V.imm ⟨b,o+i,none⟩=some (f i))/\(∀(i:Nat) (x:AV),cs[i]? =some x->Rep V x (f i))/\∃vs,aj V cs vs/\eC W b o vs:=by
 cases h with
 |bU f hi h=>exact⟨_,_,f,rfl,hi,h,dH hW hi h⟩
theorem mM {cs:List AV} {b o:Nat} {f:Nat->Value} (hi:∀i,i<cs.length->V.imm ⟨b,o+i,none⟩=some (f i)) (h:∀(i:Nat) (x:AV),cs[i]? =some x->Rep V x (f i)) (k:Nat):
   Rep V (.bU (cs.drop k)) (.pointer (some ⟨b,o+k,none⟩)):=
 .bU (fun i=>f (k+i)) (fun i hlt=>by
   have:=hi (k+i) (by simp at hlt;omega)
   rwa[<-Nat.add_assoc]at this) (fun i x hx=>by
   rw[List.getElem?_drop]at hx
   exact h _ x hx)
theorem gB {sz n:Nat} {cs:List AV} {tk:Tk} {u:Value} (h:Rep V (.sl sz n cs tk) u):
   (u= .slice none 0 0/\n=0/\cs=[])∨(∃a,u= .slice (some a) 0 0/\n=0/\cs=[])∨∃(b o cap:Nat) (f:Nat->Value),u= .slice (some ⟨b,o,none⟩) n cap/\n*sz<=cs.length/\cs.length<=cap*sz/\n<=cap∧
     (∀i,i<cs.length->V.imm ⟨b,o+i,none⟩=some (f i))/\(∀(i:Nat) (x:AV),cs[i]? =some x->Rep V x (f i)):=by
 cases h with
 |slnil=>exact .inl ⟨rfl,rfl,rfl⟩
 |slx sz a=>exact .inr (.inl ⟨_,rfl,rfl,rfl⟩)
 |sl f hn hc hnc hi h ht=>exact .inr (.inr ⟨_,_,_,f,rfl,hn,hc,hnc,hi,h⟩)
 | slo f hn hnc hl hi h=>
   refine .inr<| .inr ⟨_,0,_,f,rfl,by omega,by rw[hn];exact Nat.mul_le_mul_right _ hnc,hnc,fun i hlt=>by rw[Nat.zero_add];exact hi i hlt,h⟩
theorem IZ (hT:aj V tm a.tmps.toList) {o:Oper} {c x y:Operand} {v:AV} {ao:AOp} (ho:o.op= .pick c x y) (hc:cOp P o=some ao) (h:aT ao tm H=some v):e8 P V W a o v:=by
 simp only[cOp,ho]at hc;split at hc
 . rename_i c' x' y' h1 h2 h3;cases hc;simp only[aT]at h;split at h
   . rename_i t ht;cases h;have e:=dq (ht▸aM hT h1);refine⟨if t then a.eval x else a.eval y,by simp[execOp,ho,e,asBool], ?_⟩;cases t
     . exact aM hT h3
     . exact aM hT h2
   . cases h
 . cases hc
theorem od (hT:aj V tm a.tmps.toList) {ps:Array (Nat×Operand)} {place:Nat->Option (Nat×Nat)} {qs:List (Nat×Nat×X)} (h:parts ps.toList place=some qs):
   (evP tm qs).length=(ps.map fun(i,x)=>(i,a.eval x)).toList.length∧
   ∀(i:Nat) (p:Nat×Nat×AV) (q:Nat×Value),(evP tm qs)[i]? =some p->(ps.map fun(i,x)=>(i,a.eval x)).toList[i]? =some q->place q.1=some (p.1,p.2.1)/\Rep V p.2.2 q.2:=by
 obtain⟨h1,h2⟩:=dY h
 have hev:∀l:List (Nat×Nat×X),evP tm l=l.map fun p=>(p.1,p.2.1,p.2.2.ev tm):=by
   intro l
   induction l with
   |nil=>rfl
   |cons p l ih=>obtain⟨o,s,x⟩:=p;simp[evP,ih]
 rw[hev];refine⟨by simp at h1 ⊢;omega,fun i p q hp hq=> ?_⟩;simp only[List.getElem?_map,Option.map_eq_some_iff,Array.toList_map]at hp hq;obtain⟨p',hp',rfl⟩:=hp;obtain⟨q',hq',rfl⟩:=hq;obtain⟨y,hy,hr⟩:=h2 i q' hq';rw[hr]at hp';cases hp';split at hy
 . rename_i off sz x e1 e2;cases hy;exact⟨e1,aM hT e2⟩
 . cases hy
theorem Dx (hT:aj V tm a.tmps.toList) {o:Oper} {t:TypeId} {ps:Array (Nat×Operand)} {v:AV} {ao:AOp} (ho:o.op= .build t ps) (hc:cOp P o=some ao) (h:aT ao tm H=some v):e8 P V W a o v:=by
 simp only[cOp,ho]at hc
 have fin:∀(z:AV) (zv:Value) (qs:List (Nat×Nat×X)) (place:Nat->Option (Nat×Nat)),Rep V z zv->parts ps.toList place=some qs->(dJ z.flat (evP tm qs)).map AV.agg=some v→
     (∀cells,Instr.fill place zv.cells (ps.map fun(i,x)=>(i,a.eval x)).toList=some cells->P.built t (ps.map fun(i,x)=>(i,a.eval x)).toList=some cells)->e8 P V W a o v:=by
   intro z zv qs place hz hq hv hb;obtain⟨cs',hf,rfl⟩:=Option.map_eq_some_iff.1 hv;obtain⟨h1,h2⟩:=od (a:=a) hT hq;obtain⟨vs',hfill,hr⟩:=kM place _ _ _ _ zv.cells hz.flat h1 h2 hf;refine aP (S:=Instr.build t (ps.map fun(i,x)=>(i,a.eval x))) (u:= .agg vs') (by simp[execOp,ho]) (run_build W t _ _ (hb _ hfill)) ?_;have:=Rep.HC hr;simpa using this
 split at hc
 . rename_i fs z hu hz;obtain⟨zv,i,hi,hzero,hsz,hrz,hrun⟩:=bQ (V:=V) hz;split at hc
   . rename_i places hp;obtain⟨qs,hq,rfl⟩:=Option.map_eq_some_iff.1 hc
     refine fin z zv qs _ hrz hq h fun cells hcells=> ?_
     simp only[Program.built,hi,hu,hzero,hp];simpa using hcells
   . cases hc
 . rename_i n e z hu hz;obtain⟨zv,i,hi,hzero,hsz,hrz,hrun⟩:=bQ (V:=V) hz;split at hc
   . rename_i s hs;obtain⟨qs,hq,rfl⟩:=Option.map_eq_some_iff.1 hc
     refine fin z zv qs _ hrz hq h fun cells hcells=> ?_
     unfold e9 at hs
     cases hie:P.info? e with
     |none=>simp[hie]at hs
     | some ie=>
       simp[hie]at hs;subst hs;simp only[Program.built,hi,hu,hzero,hie];exact hcells
   . cases hc
 . cases hc
theorem IF (hW:WR P w0 V H W) (hT:aj V tm a.tmps.toList) {o:Oper} {t:TypeId} {x:Operand} {v:AV} {ao:AOp} (ho:o.op= .load t x) (hc:cOp P o=some ao) (h:aT ao tm H=some v):e8 P V W a o v:=by
 simp only[cOp,ho]at hc;split at hc
 . rename_i s ag x' hs hg hx;split at hc
   . cases hc;simp only[aT]at h;have hr:=aM hT hx;split at h
     . rename_i id off he;rw[he]at hr;obtain⟨b,hb,hl⟩:=gT hr;split at h
       . rename_i cs hcs;obtain⟨b',vs,ty,hb',_,hh,hrl,_⟩:=hW.obj id _ hcs;rw[hl]at hb';cases hb';have hc:=((jb hh).take cs.length).drop off;rw[Nat.zero_add]at hc;obtain⟨u,hrun,hru⟩:=kY hs hg (hrl.drop off) hc (pU h);exact aP (S:=Instr.loadAt t (a.eval x)) (by simp[execOp,ho]) (by simp[hb,Instr.loadAt,Instr.sureAddr,hrun]) hru
       . cases h
     . rename_i cs he;rw[he]at hr;obtain⟨b,off,f,hb,_,_,vs,hrl,hca⟩:=qq hW hr;obtain⟨u,hrun,hru⟩:=kY hs hg hrl hca h;exact aP (S:=Instr.loadAt t (a.eval x)) (by simp[execOp,ho]) (by simp[hb,Instr.loadAt,Instr.sureAddr,hrun]) hru
     . cases h
   . cases hc
 . cases hc
theorem Mf (hW:WR P w0 V H W) (hT:aj V tm a.tmps.toList) {o:Oper} {t:TypeId} {x:Operand} {k:Nat} {v:AV} {ao:AOp} (ho:o.op= .fieldAddr t x k) (hc:cOp P o=some ao) (h:aT ao tm H=some v):e8 P V W a o v:=by
 simp only[cOp,ho]at hc;split at hc
 . rename_i fs x' hu hx;split at hc
   . rename_i fd hfd;split at hc
     . cases hc
     . rename_i hsz;cases hc
       have hne:∃s,e9 P fd.type=some s/\s≠0:=by
         cases hs:e9 P fd.type with
         |none=>simp[hs]at hsz
         |some s=>exact⟨s,rfl,by simpa[hs] using hsz⟩
       obtain⟨s,hs,hs0⟩:=hne;have hr:=aM hT hx
       have hrun:∀b off,a.eval x= .pointer (some ⟨b,off,none⟩)->(Instr.fieldAt t (a.eval x) k).run P W= .ok (.pointer (some ⟨b,off+fd.offset,none⟩)) W:=by
         intro b off hb;simp[Instr.fieldAt,hb,run_underlying hu,hfd,Instr.sureAddr,fieldPlace,cz hs,hs0,bB]
       simp only[aT]at h;split at h
       . rename_i id off he;cases h;rw[he]at hr;obtain⟨b,hb,hl⟩:=gT hr;exact aP (S:=Instr.fieldAt t (a.eval x) k) (by simp[execOp,ho]) (hrun b off hb) (.ptr hl)
       . rename_i cs he;cases h;rw[he]at hr;obtain⟨b,off,f,hb,h1,h2,_⟩:=qq hW hr;exact aP (S:=Instr.fieldAt t (a.eval x) k) (by simp[execOp,ho]) (hrun b off hb) (mM h1 h2 _)
       . cases h
   . cases hc
 . cases hc
theorem J4 (hT:aj V tm a.tmps.toList) {o:Oper} {t:TypeId} {x:Operand} {k:Nat} {v:AV} {ao:AOp} (ho:o.op= .field t x k) (hc:cOp P o=some ao) (h:aT ao tm H=some v):e8 P V W a o v:=by
 simp only[cOp,ho]at hc;split at hc
 . rename_i fs x' hu hx;split at hc
   . rename_i fd hfd;split at hc
     . rename_i s ag hs hg;cases hc;have hr:=aM hT hx;simp only[aT]at h;split at h
       . rename_i cs he;rw[he]at hr;obtain⟨vs,hv,hrl⟩:=oC hr;obtain⟨u,hrun,hru⟩:=oL (W:=W) hs hg hrl h;exact aP (S:=Instr.field t (a.eval x) k) (by simp[execOp,ho]) (by simp[Instr.field,hv,run_underlying hu,hfd,asAgg,hrun]) hru
       . cases h
     . cases hc
   . cases hc
 . cases hc
theorem LF (hW:WR P w0 V H W) (hT:aj V tm a.tmps.toList) {o:Oper} {t:TypeId} {x i:Operand} {v:AV} {ao:AOp} (ho:o.op= .indexAddr t x i) (hc:cOp P o=some ao) (h:aT ao tm H=some v):e8 P V W a o v:=by
 simp only[cOp,ho]at hc;split at hc
 . rename_i e x' i' hu hx hi;obtain⟨s,hs,rfl⟩:=Option.map_eq_some_iff.1 hc;have hr:=aM hT hx;have hri:=aM hT hi
   have he:P.underlying t=some (.slice (P.elem t)):=by simp[Program.elem,hu]
   have hee:P.elem t=e:=by simp[Program.elem,hu]
   have hrun:∀b off n cap k j,a.eval x= .slice (some ⟨b,off,none⟩) n cap->a.eval i= .int k j->0<=j/\j<n→
       (Instr.indexAt t (a.eval x) (a.eval i)).run P W= .ok (.pointer (some ⟨b,off+j.toNat*s,none⟩)) W:=by
     intro b off n cap k j hb hj hb2;rw[hb,hj,run_indexAt_slice W t _ n cap k j he,if_pos hb2,hee,cz hs];simp[bB]
   simp only[aT]at h;split at h
   . rename_i sz' n cs tk k j e1 e2;rw[e1]at hr;rw[e2]at hri;split at h
     . rename_i hc;obtain⟨rfl,hj0,hjn⟩:=hc;cases h;have hje:=bu hri
       rcases gB hr with⟨_,rfl,_⟩|⟨_,_,rfl,_⟩|⟨b,off,cap,f,hb,h1,h2,h3,h4,h5⟩
       . omega
       . omega
       . exact aP (S:=Instr.indexAt t (a.eval x) (a.eval i)) (by simp[execOp,ho]) (hrun b off n cap k j hb hje ⟨hj0,hjn⟩) (mM h4 h5 _)
     . cases h
   . rename_i sz' id off n k j e1 e2;rw[e1]at hr;rw[e2]at hri;split at h
     . rename_i hc;obtain⟨rfl,hj0,hjn⟩:=hc;cases h;have hje:=bu hri;generalize hw:a.eval x=u at hr
       cases hr with
       |msl hl hnc=>exact aP (S:=Instr.indexAt t (a.eval x) (a.eval i)) (by simp[execOp,ho]) (hrun _ off n _ k j hw hje ⟨hj0,hjn⟩) (.ptr hl)
     . cases h
   . rename_i sz' id n k j e1 e2;rw[e1]at hr;rw[e2]at hri;split at h
     . rename_i hc;obtain⟨rfl,hj0,hjn⟩:=hc;cases h;have hje:=bu hri;generalize hw:a.eval x=u at hr
       cases hr with
       |rsl hl hnc=>exact aP (S:=Instr.indexAt t (a.eval x) (a.eval i)) (by simp[execOp,ho]) (hrun _ 0 n _ k j hw hje ⟨hj0,hjn⟩) (by rw[Nat.zero_add];exact .ptr (by simp[aK,hl]))
     . cases h
   . cases h
 . rename_i n e x' i' hu hx hi;obtain⟨s,hs,rfl⟩:=Option.map_eq_some_iff.1 hc;have hr:=aM hT hx;have hri:=aM hT hi
   have he:P.underlying t=some (.array (P.arrayLen t) (P.elem t)):=by simp[Program.elem,Program.arrayLen,hu]
   have hee:P.elem t=e:=by simp[Program.elem,hu]
   have hnn:P.arrayLen t=n:=by simp[Program.arrayLen,hu]
   have hrun:∀b off k j,a.eval x= .pointer (some ⟨b,off,none⟩)->a.eval i= .int k j->0<=j/\j<n→
       (Instr.indexAt t (a.eval x) (a.eval i)).run P W= .ok (.pointer (some ⟨b,off+j.toNat*s,none⟩)) W:=by
     intro b off k j hb hj hb2;rw[hb,hj,run_indexAt_array W t _ k j he,if_pos (by rw[hnn];exact hb2),hee,cz hs];simp[bB]
   simp only[aT]at h;split at h
   . rename_i id off k j e1 e2;rw[e1]at hr;rw[e2]at hri;split at h
     . rename_i hc;cases h;obtain⟨b,hb,hl⟩:=gT hr;exact aP (S:=Instr.indexAt t (a.eval x) (a.eval i)) (by simp[execOp,ho]) (hrun b off k j hb (bu hri) hc) (.ptr hl)
     . cases h
   . rename_i cs k j e1 e2;rw[e1]at hr;rw[e2]at hri;split at h
     . rename_i hc;cases h;obtain⟨b,off,f,hb,h1,h2,_⟩:=qq hW hr;exact aP (S:=Instr.indexAt t (a.eval x) (a.eval i)) (by simp[execOp,ho]) (hrun b off k j hb (bu hri) hc) (mM h1 h2 _)
     . cases h
   . cases h
 . cases hc
theorem LZ (hT:aj V tm a.tmps.toList) {o:Oper} {t:TypeId} {x i:Operand} {v:AV} {ao:AOp} (ho:o.op= .index t x i) (hc:cOp P o=some ao) (h:aT ao tm H=some v):e8 P V W a o v:=by
 simp only[cOp,ho]at hc;split at hc
 . rename_i n e x' i' hu hx hi;split at hc
   . rename_i s ag hs hg;cases hc;have hr:=aM hT hx;have hri:=aM hT hi;simp only[aT]at h;split at h
     . rename_i cs k j e1 e2;rw[e1]at hr;rw[e2]at hri;split at h
       . rename_i hc;obtain⟨vs,hv,hrl⟩:=oC hr;obtain⟨u,hrun,hru⟩:=oL (W:=W) hs hg hrl h;have hje:=bu hri;exact aP (S:=Instr.index t (a.eval x) (a.eval i)) (by simp[execOp,ho]) (by simp[Instr.index,hv,hje,run_underlying hu,asIntOf,hc,cz hs,hrun]) hru
       . cases h
     . cases h
   . cases hc
 . rename_i x' i' hu hx hi;cases hc;have hr:=aM hT hx;have hri:=aM hT hi;simp only[aT]at h;split at h
   . rename_i s k j e1 e2;rw[e1]at hr;rw[e2]at hri;split at h
     . rename_i hc;obtain⟨b,hb,rfl⟩:=Option.map_eq_some_iff.1 h;have hje:=bu hri;have hse:=cR hr;exact aP (S:=Instr.index t (a.eval x) (a.eval i)) (u:= .int .u8 b.toNat) (by simp[execOp,ho]) (by simp[Instr.index,hse,hje,run_underlying hu,asIntOf,hc,hb]) (.int _ _)
     . cases h
   . cases h
 . cases hc
end Go.Am
