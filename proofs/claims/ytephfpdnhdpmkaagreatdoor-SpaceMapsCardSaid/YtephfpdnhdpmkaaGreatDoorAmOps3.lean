/- THE OPERATIONS THAT LEAVE MEMORY AS IT IS, the last ones, and all together: the model does what the interpreter says. No condition. -/
import Derived.Test.YtephfpdnhdpmkaaGreatDoorAmOps2
import Derived.Lib.Bytealg
import Derived.Lib.ConvBytes
import Derived.Laws.BytesString
import Derived.Laws.MakeOwn
import Derived.Laws.Externs
import Derived.Lib.AppendZerosOnto
open Int (reduceEq)
open Nat (reduceEqDiff reduceAdd reduceMul reduceLT reduceLeDiff)
set_option linter.all false
namespace Go.Am
open Go Go.RowKit
set_option linter.unusedSectionVars false
variable [dy]
variable {P:Program} {w0:World} {V:View} {H:ab} {W:World} {tm:List AV} {a:Act}
theorem Nu (hT:aj V tm a.tmps.toList) {o:Oper} {op:UnOp} {t:TypeId} {x:Operand} {v:AV} {ao:AOp} (ho:o.op= .unOp op t x) (hc:cOp P o=some ao) (h:aT ao tm H=some v):e8 P V W a o v:=by
 simp only[cOp,ho]at hc;obtain⟨x',hx,rfl⟩:=Option.map_eq_some_iff.1 hc;have hr:=aM hT hx;simp only[aT,unV]at h;split at h
 . rename_i b e;cases h;rw[e]at hr;exact aP (S:=Op.unary .not (a.eval x)) (by simp[execOp,ho]) (by rw[dq hr];rfl) (.bool _)
 . rename_i k n e;cases h;rw[e]at hr;exact aP (S:=Op.unary .neg (a.eval x)) (by simp[execOp,ho]) (by rw[bu hr];rfl) (.int _ _)
 . rename_i k n e;rw[e]at hr;obtain⟨u,hu,hru⟩:=o4 (P:=P) (W:=W) (V:=V) h;exact aP (S:=Op.unary .xor (a.eval x)) (by simp[execOp,ho]) (by rw[bu hr];exact hu) hru
 . cases h
def View.see (V:View) (b:Nat) (vs:Array Value):View:={V with imm:=fun p=>if p.block=b/\p.spot=none then vs[p.off]? else V.imm p}
theorem WR.cV (hW:WR P w0 V H W):∀p v,V.imm p=some v->p.block<W.heap.size:=fun p v hp=>World.block_lt_of_cell? W p (hW.imm p v hp).1
theorem WR.Oq (hW:WR P w0 V H W) (vs:Array Value) {W':World} (hos:W'.os=W.os) (htp:W'.tape=W.tape) (hout:W'.output=W.output) (hsz:W.heap.size<=W'.heap.size) (hold:∀k,k<W.heap.size->W'.heap[k]? =W.heap[k]?)
   (hnew:∀(j:Nat) (v:Value),vs[j]? =some v->W'.cell? ⟨W.heap.size,j,none⟩=some v) (h1:∀v∈vs.toList,v.oneCell'=true):
   Stp V W (V.see W.heap.size vs) W' none/\WR P w0 (V.see W.heap.size vs) H W':=by
 have hs:Stp V W (V.see W.heap.size vs) W' none:=by
   refine⟨⟨fun p v hp=> ?_,fun i l h=>h⟩,⟨hos,htp,hout,hsz,fun k hk _=>hold k hk⟩,fun p v hp=> ?_⟩
   . have:=hW.cV p v hp;show(if p.block=W.heap.size/\p.spot=none then vs[p.off]? else V.imm p)=some v
     rw[if_neg (by omega)];exact hp
   . change (if p.block=W.heap.size/\p.spot=none then vs[p.off]? else V.imm p)=some v at hp;split at hp
     . rename_i hc;exact .inr (.inl (by omega))
     . exact .inl hp
 refine⟨hs,hW.step hs (fun p v hp=> ?_) hW.fresh⟩;change (if p.block=W.heap.size/\p.spot=none then vs[p.off]? else V.imm p)=some v at hp;split at hp
 . rename_i hc;obtain⟨b,off,spot⟩:=p;obtain⟨rfl,rfl⟩:=hc;exact⟨hnew _ _ hp,h1 v (by have:=Array.mem_of_getElem? hp;simpa using this)⟩
 . exact⟨hs.grown.cell (hW.imm p v hp).1 (by simp),(hW.imm p v hp).2⟩
theorem nX {V:View}:∀{cs:List AV} {l:List UInt8} {f:Nat->Value} {k:Nat},gO cs=some l->(∀(i:Nat) (x:AV),cs[i]? =some x->Rep V x (f (k+i)))→
   ∃ns:List Int,ns.length=cs.length/\(∀(i:Nat),i<cs.length->f (k+i)=(ns.map (Value.int .u8))[i]!)/\l=ns.map (fun n=>UInt8.ofNat n.toNat)
 |[],l,f,k,h,_=>by cases h;exact⟨[],rfl,fun i hi=>by simp at hi,rfl⟩
 | x::r,l,f,k,h,hr=>by
   unfold gO at h;split at h
   . rename_i e;cases e
   . rename_i n r' e;cases e;obtain⟨l',hl',rfl⟩:=Option.map_eq_some_iff.1 h
     obtain⟨ns,h1,h2,h3⟩:=nX (f:=f) (k:=k+1) hl' (fun i x hx=>by
       have:=hr (i+1) x (by simpa using hx)
       rwa[show k+1+i=k+(i+1)from by omega])
     have h0:=bu (hr 0 _ rfl);refine⟨n::ns,by simp[h1],fun i hi=> ?_,by simp[h3]⟩
     cases i with
     |zero=>simpa using h0
     | succ i=>
       have:=h2 i (by simpa using hi);rw[show k+(i+1)=k+1+i from by omega,this]
       have hi':i<ns.length:=by rw[h1];simpa using hi
       simp[hi']
   . cases h
theorem nM:∀(ns:List Int) (s:ByteArray),ns.foldl (fun r n=>r.push (UInt8.ofNat n.toNat)) s=⟨s.data++(ns.map (fun n:Int=>UInt8.ofNat n.toNat)).toArray⟩
 |[],s=>by simp
 | n::r,s=>by
   rw[List.foldl_cons,nM r];simp only[List.map_cons,ByteArray.mk.injEq];apply Array.ext';simp[ByteArray.push]
theorem kJ (m:ByteArray) {j:Nat} (h:j<m.data.size):m.data.toList.getD j 0=m.data[j]:=by
 rw[List.getD_eq_getElem?_getD,Array.getElem?_toList,Array.getElem?_eq_getElem h];rfl
theorem JH (hW:WR P w0 V H W) (hT:aj V tm a.tmps.toList) {o:Oper} {s d:TypeId} {x:Operand} {v:AV} {ao:AOp} (ho:o.op= .convert s d x) (hc:cOp P o=some ao) (h:aT ao tm H=some v):
   ∃V' W' u,(execOp a.eval o).run P W= .ok (.value u) W'/\Rep V' v u/\Stp V W V' W' none/\WR P w0 V' H W'/\V'.loc=V.loc:=by
 have same:e8 P V W a o v->∃V' W' u,(execOp a.eval o).run P W= .ok (.value u) W'/\Rep V' v u/\Stp V W V' W' none/\WR P w0 V' H W'/\V'.loc=V.loc:=fun⟨u,h1,h2⟩=>
   ⟨V,W,u,h1,h2,.refl V W none,hW,rfl⟩
 simp only[cOp,ho]at hc;split at hc
 . rename_i k0 k x' h1 h2 hx;cases hc;have hr:=aM hT hx;simp only[aT]at h;split at h
   . rename_i k1 q n e1 e2;cases e1;cases h;rw[e2]at hr;exact same (aP (S:=convert s d (a.eval x)) (by simp[execOp,ho]) (by rw[bu hr];simp[convert,run_underlying h1,run_underlying h2,Conv.intToInt]) (.int _ _))
   . rename_i e1 e2;cases e1
   . rename_i e1 e2;cases e1
   . rename_i e1 e2;cases e1
   . cases h
 . rename_i x' h1 h2 hx;cases hc;have hr:=aM hT hx;simp only[aT]at h;split at h
   . rename_i e1 e2;cases e1
   . rename_i m e1 e;cases h;rw[e]at hr;exact same (aP (S:=convert s d (a.eval x)) (by simp[execOp,ho]) (by rw[cR hr];simp[convert,run_underlying h1,run_underlying h2]) (.str m))
   . rename_i e1 e2;cases e1
   . rename_i e1 e2;cases e1
   . cases h
 . rename_i e x' h1 h2 hx;split at hc
   case isFalse=>cases hc
   rename_i h8;cases hc
   have he:P.underlying e=some (.int .u8):=by
     unfold Jj at h8;split at h8
     . assumption
     . cases h8
   have hr:=aM hT hx;simp only[aT]at h;split at h
   . rename_i e1 e2;cases e1
   . rename_i e1 e2;cases e1
   . rename_i m e1 e2;split at h
     case isFalse=>cases h
     rename_i hmax;cases h;rw[e2]at hr;have hu:=cR hr;have hrun:=Lib.run_convert_string_bytes (P:=P) W s d e m h1 h2 he
     have hsz:(jj m).length=m.size:=by simp[jj]
     have hget:∀(j:Nat) (v:Value),((m.data.map fun b=>Value.int .u8 b.toNat))[j]? =some v->(Lib.bytesWorld W e m).cell? ⟨W.heap.size,j,none⟩=some v:=by
       intro j v hj
       have hj2:j<m.size:=by have:=(Array.getElem?_eq_some_iff.1 hj).1;simpa using this
       rw[Lib.bytesWorld_cell W e m j hj2];have hj3:j<m.data.size:=hj2;rw[Array.getElem?_map,Array.getElem?_eq_getElem hj3,Option.map_some]at hj;cases hj;rw[kJ m hj3]
     obtain⟨hs,hW'⟩:=hW.Oq (m.data.map fun b=>Value.int .u8 b.toNat) (W':=Lib.bytesWorld W e m) rfl rfl rfl (by rw[Lib.bytesWorld_size];omega) (fun k hk=>Lib.bytesWorld_at_old W e m k hk) hget (by
       intro v hv;simp only[Array.toList_map,List.mem_map]at hv;obtain⟨b,_,rfl⟩:=hv
       rfl)
     refine⟨_,_,.slice (some ⟨W.heap.size,0,none⟩) m.size (grownCap W m.size 0 e), ?_, ?_,hs,hW',rfl⟩
     . have:=cP hrun;rw[<-hu]at this;simpa[execOp,ho] using this
     . refine .sl (fun k=> .int .u8 (m.data.toList.getD k 0).toNat) (by rw[hsz];omega) (by rw[hsz];have:=grownCap_ge W m.size 0 e;omega) (grownCap_ge W m.size 0 e) (fun k hk=> ?_) (fun k x hx=> ?_) (.inl rfl)
       . rw[hsz]at hk;have hk3:k<m.data.size:=hk;show(if W.heap.size=W.heap.size/\(none:Option Nat)=none then(m.data.map fun b=>Value.int .u8 b.toNat)[0+k]? else V.imm ⟨W.heap.size,0+k,none⟩)=_
         rw[if_pos ⟨rfl,rfl⟩,Nat.zero_add,Array.getElem?_map,Array.getElem?_eq_getElem hk3,Option.map_some,kJ m hk3]
       . have hk:k<m.data.size:=by
           have:=(List.getElem?_eq_some_iff.1 hx).1;rw[hsz]at this;exact this
         have:x= .int .u8 (m.data.toList.getD k 0).toNat:=by
           unfold jj at hx;rw[List.getElem?_map,Array.getElem?_toList,Array.getElem?_eq_getElem hk]at hx;cases hx;rw[kJ m hk];rfl
         rw[this];exact .int _ _
   . rename_i e1 e2;cases e1
   . cases h
 . rename_i e x' h1 h2 hx;split at hc
   case isFalse=>cases hc
   rename_i h8;cases hc;simp only[Bool.and_eq_true,beq_iff_eq]at h8
   have he:P.underlying e=some (.int .u8):=by
     have h8:=h8.1;unfold Jj at h8;split at h8
     . assumption
     . cases h8
   have hr:=aM hT hx;simp only[aT]at h;split at h
   . rename_i e1 e2;cases e1
   . rename_i e1 e2;cases e1
   . rename_i e1 e2;cases e1
   . rename_i sz n cs tk e1 e2;split at h
     case isFalse=>cases h
     rename_i hsz;obtain⟨l,hl,rfl⟩:=Option.map_eq_some_iff.1 h;rw[e2]at hr
     have conv:∀a' l' c',a.eval x= .slice a' l' c'->(Conv.bytesToString (.slice a' l' c')).run P W= .ok (.string ⟨l.toArray⟩) W->e8 P V W a o (.str ⟨l.toArray⟩):=by
       intro a' l' c' hu hrun;exact aP (S:=convert s d (a.eval x)) (by simp[execOp,ho]) (by rw[hu,run_convert_bytes_string W s d e _ _ _ h1 he h2];exact hrun) (.str _)
     rcases gB hr with⟨hu,rfl,rfl⟩|⟨ad,hu,rfl,rfl⟩|⟨b,of,cap,f,hu,k1,k2,k3,k4,k5⟩
     . cases hl;exact same (conv _ _ _ hu (by simp[Conv.bytesToString];rfl))
     . cases hl;refine same (conv _ _ _ hu ?_);exact(run_bytesToString (P:=P) W ad 0 0 [] (by simp[loadCells,loadCellsFrom])).trans rfl
     . have hn:n<=cs.length:=by
         rcases hsz with rfl|rfl
         . omega
         . omega
       obtain⟨ns,q1,q2,q3⟩:=nX (f:=f) (k:=0) hl (fun i x hx=>by
         rw[List.getElem?_take]at hx;split at hx
         . rw[Nat.zero_add];exact k5 i x hx
         . cases hx)
       rw[List.length_take,Nat.min_eq_left hn]at q1
       have hload:=run_loadCells_list (P:=P) (w:=W) ⟨b,of,none⟩ (ns.map (Value.int .u8)) (fun j u hj=>by
         have hj2:j<n:=by have:=(List.getElem?_eq_some_iff.1 hj).1;simpa[q1] using this
         have hq:=q2 j (by rw[List.length_take];omega);rw[Nat.zero_add]at hq;rw[bB,(hW.imm _ _ (k4 j (by omega))).1,hq];have hj3:j<(ns.map (Value.int .u8)).length:=(List.getElem?_eq_some_iff.1 hj).1;rw[List.getElem!_eq_getElem?_getD,hj]
         rfl)
       rw[List.length_map,q1]at hload;refine same (conv _ _ _ hu ?_);rw[run_bytesToString (P:=P) W _ n cap ns hload,nM];congr 2;rw[q3];simp
   . cases h
 . cases hc
theorem JR (hT:aj V tm a.tmps.toList) {o:Oper} {t:TypeId} {x:Operand} {v:AV} {ao:AOp} (ho:o.op= .makeInterface t x) (hc:cOp P o=some ao) (h:aT ao tm H=some v):e8 P V W a o v:=by
 simp only[cOp,ho]at hc;split at hc
 . cases hc
 . rename_i d hn hu;obtain⟨x',hx,rfl⟩:=Option.map_eq_some_iff.1 hc;simp only[aT,Option.some.injEq]at h;subst h
   have hcon:P.concrete t=true:=by
     unfold Program.concrete;split
     . rename_i ms e;rw[hu]at e;cases e;exact(hn ms rfl).elim
     . rename_i e;rw[hu]at e;cases e
     . rfl
   exact aP (S:=Instr.makeInterface t (a.eval x)) (by simp[execOp,ho]) (run_makeInterface W t _ hcon) (.iface (aM hT hx))
 . cases hc
theorem Jv (hT:aj V tm a.tmps.toList) {o:Oper} {fn:Fn} {fs cs:Array Operand} {v:AV} {ao:AOp} (ho:o.op= .makeFunc fn fs cs) (hc:cOp P o=some ao) (h:aT ao tm H=some v):e8 P V W a o v:=by
 cases fn with
 | func f=>
   simp only[cOp,ho]at hc;split at hc
   . rename_i hs;obtain⟨xs,hx,rfl⟩:=Option.map_eq_some_iff.1 hc;simp only[aT,Option.some.injEq]at h;subst h
     have he:fs.map a.eval= #[]:=by simp[Array.eq_empty_of_size_eq_zero hs]
     refine aP (S:=Instr.makeFunc (.func f) (fs.map a.eval) (cs.map a.eval)) (u:= .func (.func f) #[] (cs.map a.eval)) (by simp[execOp,ho]) (by rw[he];rfl) ?_;have e2:(cs.map a.eval)=((cs.map a.eval).toList).toArray:=(Array.toArray_toList).symm;rw[e2];exact Rep.fn' (jz hT hx)
   . split at hc
     . rename_i hs;obtain⟨xs,hx,rfl⟩:=Option.map_eq_some_iff.1 hc;simp only[aT,Option.some.injEq]at h;subst h
       have he:cs.map a.eval= #[]:=by simp[Array.eq_empty_of_size_eq_zero hs]
       refine aP (S:=Instr.makeFunc (.func f) (fs.map a.eval) (cs.map a.eval)) (u:= .func (.func f) (fs.map a.eval) #[]) (by simp[execOp,ho]) (by rw[he];rfl) ?_;have e2:(fs.map a.eval)=((fs.map a.eval).toList).toArray:=(Array.toArray_toList).symm;rw[e2];exact Rep.N6 (jz hT hx)
     . cases hc
 |_=>simp[cOp,ho]at hc
theorem yY (hT:aj V tm a.tmps.toList) {o:Oper} {s t:TypeId} {x:Operand} {ok:Bool} {v:AV} {ao:AOp} (ho:o.op= .typeAssert x s t ok) (hc:cOp P o=some ao) (h:aT ao tm H=some v):e8 P V W a o v:=by
 simp only[cOp,ho]at hc;split at hc
 . cases hc
 . rename_i d x' hn hu hx;obtain⟨z,hz,rfl⟩:=Option.map_eq_some_iff.1 hc;obtain⟨zv,i,hi,hzero,hsz,hrz,hrun⟩:=bQ (V:=V) hz;have hr:=aM hT hx
   have hdn:∀ms,d≠ .interface ms:=fun ms e=>hn ms e
   have hzr:=hrun W
   have hold:∀q u,a.eval x= .iface q u->(Instr.typeAssert (a.eval x) s t ok).run P W=
       if q=t then .ok (if ok then .tuple #[u,.bool true] else u) W else if ok then .ok (.tuple #[zv,.bool false]) W else(Instr.typeAssert (a.eval x) s t ok).run P W:=by
     intro q u hb;by_cases hq:q=t
     . rw[if_pos hq,hb]
       cases d<;>first|exact absurd rfl (hdn _)|simp[Instr.typeAssert,run_underlying hu,hq]
     . rw[if_neg hq];by_cases hok:ok=true
       . rw[if_pos hok,hb]
         cases d<;>first|exact absurd rfl (hdn _)|simp[Instr.typeAssert,run_underlying hu,hq,hok,hzr]
       . rw[if_neg hok]
   have hnil:a.eval x= .nilIface->ok=true->(Instr.typeAssert (a.eval x) s t ok).run P W= .ok (.tuple #[zv,.bool false]) W:=by
     intro hb hok;rw[hb]
     cases d<;>first|exact absurd rfl (hdn _)|simp[Instr.typeAssert,run_underlying hu,hok,hzr]
   have ftup:Rep V (.tup [z,.bool false]) (.tuple #[zv,.bool false]):=Rep.om (.cons hrz (.cons (.bool _) (.nil V)));simp only[aT]at h;split at h
   . rename_i q y e;rw[e]at hr;generalize hb:a.eval x=u at hr
     cases hr with
     | iface hy=>
       rename_i u';split at h
       . rename_i hq;cases h;refine aP (S:=Instr.typeAssert (a.eval x) s t ok) (u:=if ok then .tuple #[u',.bool true] else u') (by simp[execOp,ho]) (by rw[hold q u' hb,if_pos hq]) ?_;cases ok
         . exact hy
         . exact Rep.om (.cons hy (.cons (.bool _) (.nil V)))
       . rename_i hq;split at h
         . rename_i hok;cases h;exact aP (S:=Instr.typeAssert (a.eval x) s t ok) (by simp[execOp,ho]) (by rw[hold q u' hb,if_neg hq,if_pos hok]) ftup
         . cases h
   . rename_i e;rw[e]at hr;generalize hb:a.eval x=u at hr;cases hr;split at h
     . rename_i hok;cases h;exact aP (S:=Instr.typeAssert (a.eval x) s t ok) (by simp[execOp,ho]) (hnil hb hok) ftup
     . cases h
   . cases h
 . cases hc
theorem LC (hT:aj V tm a.tmps.toList) {o:Oper} {x:Operand} {i:Nat} {v:AV} {ao:AOp} (ho:o.op= .extract x i) (hc:cOp P o=some ao) (h:aT ao tm H=some v):e8 P V W a o v:=by
 simp only[cOp,ho]at hc;obtain⟨x',hx,rfl⟩:=Option.map_eq_some_iff.1 hc;have hr:=aM hT hx;simp only[aT]at h;split at h
 . rename_i vs e;rw[e]at hr;obtain⟨us,hu,hrl⟩:=uV hr;obtain⟨u,hui,hru⟩:=hrl.get h
   have hui':us[i]? =some u:=by simpa using hui
   exact aP (S:=Instr.extract (a.eval x) i) (by simp[execOp,ho]) (by rw[hu];simp[Instr.extract,hui']) hru
 . cases h
theorem DG (hT:aj V tm a.tmps.toList) {o:Oper} {x:Operand} {v:AV} {ao:AOp} (ho:o.op= .nilCheck x) (hc:cOp P o=some ao) (h:aT ao tm H=some v):e8 P V W a o v:=by
 simp only[cOp,ho]at hc;obtain⟨x',hx,rfl⟩:=Option.map_eq_some_iff.1 hc;have hr:=aM hT hx;simp only[aT]at h;split at h
 all_goals first
   |(cases h;done)
   |(rename_i e;rw[e]at hr;cases h;refine⟨a.eval x, ?_,hr⟩;generalize a.eval x=u at hr;cases hr;simp[execOp,ho];done)
   |(rename_i e;rw[e]at hr;cases h;refine⟨a.eval x, ?_,hr⟩;generalize hu:a.eval x=u at hr;cases hr;simp[execOp,ho,hu];done)
theorem mV {v:AV} {n:Nat} (h:asNat v=some n) {u:Value} (hr:Rep V v u):∃k i,u= .int k i/\0<=i/\i.toNat=n:=by
 unfold asNat at h;split at h
 . split at h
   . cases h;exact⟨_,_,bu hr,by assumption,rfl⟩
   . cases h
 . cases h
theorem mO {x:Option Operand} {x':Option X} (h:xM x=some x'):(x=none/\x'=none)∨∃y y',x=some y/\x'=some y'/\cX y=some y':=by
 unfold xM at h;split at h
 . cases h;exact .inl ⟨rfl,rfl⟩
 . obtain⟨y',hy,rfl⟩:=Option.map_eq_some_iff.1 h;exact .inr ⟨_,_,rfl,rfl,hy⟩
theorem iI (hT:aj V tm a.tmps.toList) {lo hi:Option Operand} {lo' hi':Option X} (h1:xM lo=some lo') (h2:xM hi=some hi') {len cap l hh:Nat} (hl:bound tm lo' 0=some l) (hu:bound tm hi' len=some hh)
   (hle:l<=hh) (hc:hh<=cap) (isS:Bool):(Instr.sliceBounds isS len cap (lo.map a.eval) (hi.map a.eval) none).run P W= .ok (l,hh,cap) W:=by
 have hi1:∀code,(match hi.map a.eval with|some v=>Instr.sliceBound v cap code|none=>(pure len:Sem Nat)).run P W= .ok hh W:=by
   intro code
   rcases mO h2 with⟨rfl,rfl⟩|⟨y,y',rfl,rfl,hy⟩
   . simp only[bound,Option.some.injEq]at hu;subst hu;rfl
   . obtain⟨k,i,he,h0,hn⟩:=mV hu (aM hT hy);simp only[Option.map_some,he,Instr.sliceBound,asIntOf,pure_bind];have:0<=i/\i<=(cap:Int):=⟨h0,by omega⟩;simp[this,hn]
 have lo1:∀code,(match lo.map a.eval with|some v=>Instr.sliceBound v hh code|none=>(pure 0:Sem Nat)).run P W= .ok l W:=by
   intro code
   rcases mO h1 with⟨rfl,rfl⟩|⟨y,y',rfl,rfl,hy⟩
   . simp only[bound,Option.some.injEq]at hl;subst hl;rfl
   . obtain⟨k,i,he,h0,hn⟩:=mV hl (aM hT hy);simp only[Option.map_some,he,Instr.sliceBound,asIntOf,pure_bind];have:0<=i/\i<=(hh:Int):=⟨h0,by omega⟩;simp[this,hn]
 unfold Instr.sliceBounds
 cases hh':hi.map a.eval with
 | none=>
   have t1:=hi1 .index;rw[hh']at t1;simp only[Sem.run_pure]at t1;cases t1
   cases hl':lo.map a.eval with
   | none=>
     have t2:=lo1 .index;rw[hl']at t2;simp only[Sem.run_pure]at t2;cases t2;rfl
   | some v=>
     have t2:=lo1 (if(none:Option Value).isSome then .slice3C else .sliceB);rw[hl']at t2;simp only[Sem.run_bind,Sem.run_pure,Result.andThen_ok]at t2 ⊢;rw[t2];rfl
 | some v=>
   have t1:=hi1 (if isS then .sliceAcap else .sliceAlen);rw[hh']at t1
   cases hl':lo.map a.eval with
   | none=>
     have t2:=lo1 .index;rw[hl']at t2;simp only[Sem.run_pure]at t2;cases t2;simp only[Sem.run_bind,Sem.run_pure,Result.andThen_ok]at t1 ⊢;rw[t1];rfl
   | some u=>
     have t2:=lo1 (if(none:Option Value).isSome then .slice3C else .sliceB);rw[hl']at t2;simp only[Sem.run_bind,Sem.run_pure,Result.andThen_ok]at t1 t2 ⊢;rw[t1];simp only[Result.andThen_ok];rw[t2];rfl
theorem qA {sz b o cap l hh:Nat} {cs:List AV} {f:Nat->Value} (h2:cs.length<=cap*sz) (hi:∀i,i<cs.length->V.imm ⟨b,o+i,none⟩=some (f i))
   (h:∀(i:Nat) (x:AV),cs[i]? =some x->Rep V x (f i)) (hl:l<=hh) (hc:hh*sz<=cs.length) (hcap:hh<=cap):
   Rep V (.sl sz (hh-l) (cs.drop (l*sz)) .ro) (.slice (some ⟨b,o+l*sz,none⟩) (hh-l) (cap-l)):=by
 refine .sl (fun i=>f (l*sz+i)) ?_ ?_ (by omega) (fun i hlt=> ?_) (fun i x hx=> ?_) (.inl rfl)
 . rw[List.length_drop,Nat.sub_mul];omega
 . rw[List.length_drop,Nat.sub_mul];omega
 . have:=hi (l*sz+i) (by rw[List.length_drop]at hlt;omega)
   rwa[<-Nat.add_assoc]at this
 . rw[List.getElem?_drop]at hx;exact h _ x hx
theorem oa (hT:aj V tm a.tmps.toList) {lo:Option Operand} {hi mx:Operand} {lo':Option X} {hi' mx':X} (h1:xM lo=some lo') (h2:cX hi=some hi') (h3:cX mx=some mx') {len cap l hh m:Nat} (hl:bound tm lo' 0=some l) (hu:bound tm (some hi') len=some hh) (hm:bound tm (some mx') len=some m)
   (hle:l<=hh) (hc:hh<=m) (hcap:m<=cap):(Instr.sliceBounds true len cap (lo.map a.eval) (some (a.eval hi)) (some (a.eval mx))).run P W= .ok (l,hh,m) W:=by
 have b:∀{y:Operand} {y':X} {k q:Nat} {c:BoundsCode} {d:Nat},cX y=some y'->bound tm (some y') d=some q->q<=k->(Instr.sliceBound (a.eval y) k c).run P W= .ok q W:=by
   intro y y' k q c d hy hb hq;obtain⟨kk,i,he,h0,hn⟩:=mV hb (aM hT hy);simp only[he,Instr.sliceBound,asIntOf,pure_bind];have:0<=i/\i<=(k:Int):=⟨h0,by omega⟩;simp[this,hn]
 unfold Instr.sliceBounds
 have t1:=fun c=>b (c:=c) h3 hm hcap
 have t2:=fun c=>b (c:=c) h2 hu hc
 rcases mO h1 with⟨rfl,rfl⟩|⟨y,y',rfl,rfl,hy⟩
 . simp only[bound,Option.some.injEq]at hl;subst hl;simp only[Sem.run_bind,Option.map_none,t1,t2,Result.andThen_ok,Sem.run_pure]
 . have t3:=fun c=>b (c:=c) hy hl hle
   simp only[Sem.run_bind,Option.map_some,t1,t2,t3,Result.andThen_ok,Sem.run_pure]
theorem Eh (hT:aj V tm a.tmps.toList) {o:Oper} {t:TypeId} {x:Operand} {lo hi mx:Option Operand} {v:AV} {ao:AOp} (ho:o.op= .slice t x lo hi mx) (hc:cOp P o=some ao) (h:aT ao tm H=some v):e8 P V W a o v:=by
 cases mx with
 | some mx=>
   cases hi with
   |none=>simp[cOp,ho]at hc
   |some hi=>
   simp only[cOp,ho]at hc;split at hc
   case h_2=>cases hc
   rename_i e x' lo' hi' mx' hu hx hlo hhi hmx;obtain⟨s,hs,rfl⟩:=Option.map_eq_some_iff.1 hc;have hr:=aM hT hx;simp only[aT]at h;split at h
   case h_2=>
     rename_i sz' id off n he;rw[he]at hr;split at h
     case h_2=>cases h
     rename_i l hh m h1 h2 h3;split at h
     case isFalse=>cases h
     rename_i hcnd;obtain⟨rfl,hpos,hle,rfl,hlen⟩:=hcnd;cases h;generalize hb:a.eval x=u at hr
     cases hr with
     |msl hl hnc=>
     rename_i b cap
     have hrun:(Instr.sliceAt t (.slice (some ⟨b,off,none⟩) n cap) (lo.map a.eval) (some (a.eval hi)) (some (a.eval mx))).run P W= .ok (.slice (if hh=l then some ⟨b,off,none⟩else(some (⟨b,off,none⟩:Addr)).map (·.add (l*s))) (hh-l) (hh-l)) W:=by
       simp only[Instr.sliceAt,Instr.slice,Sem.run_bind,run_underlying hu,Result.andThen_ok,oa hT hlo hhi hmx h1 h2 h3 hle (Nat.le_refl _) (by omega:hh<=cap),cz hs,Sem.run_pure]
     by_cases hlh:l=hh
     . subst hlh;rw[if_pos rfl];refine aP (S:=Instr.sliceAt t (a.eval x) (lo.map a.eval) (some (a.eval hi)) (some (a.eval mx))) (u:= .slice (some ⟨b,off,none⟩) 0 0) (by simp[execOp,ho]) (by rw[hb,hrun];simp) ?_;exact .slx _ _
     . rw[if_neg hlh];refine aP (S:=Instr.sliceAt t (a.eval x) (lo.map a.eval) (some (a.eval hi)) (some (a.eval mx))) (u:= .slice (some ⟨b,off+l*s,none⟩) (hh-l) (hh-l)) (by simp[execOp,ho]) (by rw[hb,hrun,if_neg (by omega)];simp[bB]) ?_;exact .msl hl (Nat.le_refl _)
   case h_3=>cases h
   rename_i sz' n cs tk he;rw[he]at hr;split at h
   case h_2=>cases h
   rename_i l hh m h1 h2 h3;split at h
   case isFalse=>cases h
   rename_i hcnd;obtain⟨rfl,hpos,hle,rfl,hlen,htk⟩:=hcnd;cases h
   have run:∀ad n' cap,a.eval x= .slice ad n' cap->n'=n->hh<=cap→
       (Instr.sliceAt t (a.eval x) (lo.map a.eval) (some (a.eval hi)) (some (a.eval mx))).run P W= .ok (.slice (if hh=l then ad else ad.map (·.add (l*s))) (hh-l) (hh-l)) W:=by
     intro ad n' cap hb hn h4;subst hn;rw[hb];simp only[Instr.sliceAt,Instr.slice,Sem.run_bind,run_underlying hu,Result.andThen_ok,oa hT hlo hhi hmx h1 h2 h3 hle (Nat.le_refl _) h4,cz hs,Sem.run_pure]
   rcases gB hr with⟨hb,rfl,rfl⟩|⟨a0,hb,rfl,rfl⟩|⟨b,off,cap,f,hb,k1,k2,k3,k4,k5⟩
   . rw[hb]at hr;cases hr;cases htk
   . have h0:hh=0:=by
       rcases Nat.eq_zero_or_pos hh with h0|h0
       . exact h0
       . have:hh*s≥1*1:=Nat.mul_le_mul h0 hpos;simp at hlen;omega
     subst h0
     obtain rfl:l=0:=by omega
     refine aP (S:=Instr.sliceAt t (a.eval x) (lo.map a.eval) (some (a.eval hi)) (some (a.eval mx))) (u:= .slice (some a0) 0 0) (by simp[execOp,ho]) (by rw[run _ 0 0 hb rfl (Nat.le_refl _)];simp) ?_;simp only[List.take_nil,List.drop_nil,Nat.sub_self];exact .slx _ _
   . have hcap:hh<=cap:=by
       rcases Nat.lt_or_ge cap hh with hlt|hge
       . have:(cap+1)*s<=hh*s:=Nat.mul_le_mul_right _ hlt;rw[Nat.add_mul]at this;omega
       . exact hge
     have hrun:=run _ n cap hb rfl hcap;by_cases hcl:hh=l
     . subst hcl;refine aP (S:=Instr.sliceAt t (a.eval x) (lo.map a.eval) (some (a.eval hi)) (some (a.eval mx))) (u:= .slice (some ⟨b,off,none⟩) 0 0) (by simp[execOp,ho]) (by rw[hrun];simp) ?_;have hnil:(cs.take (hh*s)).drop (hh*s)=[]:=List.drop_eq_nil_of_le (by simp;omega);rw[hnil,Nat.sub_self];exact .slx _ _
     . refine aP (S:=Instr.sliceAt t (a.eval x) (lo.map a.eval) (some (a.eval hi)) (some (a.eval mx))) (u:= .slice (some ⟨b,off+l*s,none⟩) (hh-l) (hh-l)) (by simp[execOp,ho]) (by rw[hrun,if_neg hcl];simp[bB]) ?_
       have hl2:(cs.take (hh*s)).length=hh*s:=by rw[List.length_take];omega
       refine qA (cs:=cs.take (hh*s)) (f:=f) (by rw[hl2];exact Nat.le_refl _) (fun i hi=>k4 i (by rw[hl2]at hi;omega)) (fun i x hx=>k5 i x ?_) hle (by rw[hl2];exact Nat.le_refl _) (Nat.le_refl _);rw[List.getElem?_take]at hx;split at hx
       . exact hx
       . cases hx
 |none=>
 simp only[cOp,ho]at hc;split at hc
 . rename_i e x' lo' hi' hu hx hlo hhi;obtain⟨s,hs,rfl⟩:=Option.map_eq_some_iff.1 hc;have hr:=aM hT hx
   have run:∀ad n cap l hh,a.eval x= .slice ad n cap->bound tm lo' 0=some l->bound tm hi' n=some hh->l<=hh->hh<=cap→
       (Instr.sliceAt t (a.eval x) (lo.map a.eval) (hi.map a.eval) none).run P W= .ok (.slice (if cap=l then ad else ad.map (·.add (l*s))) (hh-l) (cap-l)) W:=by
     intro ad n cap l hh hb h1 h2 h3 h4;rw[hb];simp only[Instr.sliceAt,Instr.slice,Sem.run_bind,run_underlying hu,Result.andThen_ok,iI hT hlo hhi h1 h2 h3 h4 true,cz hs,Sem.run_pure]
   simp only[aT]at h;split at h
   . rename_i sz' n cs tk he;rw[he]at hr;split at h
     . rename_i l hh h1 h2;split at h
       . rename_i hcnd;obtain⟨rfl,hpos,hle,hlen⟩:=hcnd;cases h
         rcases gB hr with⟨hb,rfl,rfl⟩|⟨a0,hb,rfl,rfl⟩|⟨b,off,cap,f,hb,k1,k2,k3,k4,k5⟩
         . --nil
           have h0:hh=0:=by
             rcases Nat.eq_zero_or_pos hh with h0|h0
             . exact h0
             . have:hh*s≥1*1:=Nat.mul_le_mul h0 hpos;simp at hlen;omega
           subst h0
           obtain rfl:l=0:=by omega
           refine aP (S:=Instr.sliceAt t (a.eval x) (lo.map a.eval) (hi.map a.eval) none) (u:= .slice none 0 0) (by simp[execOp,ho]) (by rw[run _ 0 0 0 0 hb h1 h2 (Nat.le_refl _) (Nat.le_refl _)];simp) ?_;rw[if_pos ⟨rfl,rfl⟩,<-hb];exact hr
         . --none,somewhere
           have h0:hh=0:=by
             rcases Nat.eq_zero_or_pos hh with h0|h0
             . exact h0
             . have:hh*s≥1*1:=Nat.mul_le_mul h0 hpos;simp at hlen;omega
           subst h0
           obtain rfl:l=0:=by omega
           refine aP (S:=Instr.sliceAt t (a.eval x) (lo.map a.eval) (hi.map a.eval) none) (u:= .slice (some a0) 0 0) (by simp[execOp,ho]) (by rw[run _ 0 0 0 0 hb h1 h2 (Nat.le_refl _) (Nat.le_refl _)];simp) ?_;rw[if_pos ⟨rfl,rfl⟩,<-hb];exact hr
         . have hcap:hh<=cap:=by
             rcases Nat.lt_or_ge cap hh with hlt|hge
             . have:(cap+1)*s<=hh*s:=Nat.mul_le_mul_right _ hlt;rw[Nat.add_mul]at this;omega
             . exact hge
           have hrun:=run _ n cap l hh hb h1 h2 hle hcap;by_cases hz:l=0/\hh=n
           . obtain⟨rfl,rfl⟩:=hz;rw[if_pos ⟨rfl,rfl⟩];refine aP (S:=Instr.sliceAt t (a.eval x) (lo.map a.eval) (hi.map a.eval) none) (u:= .slice (some ⟨b,off,none⟩) hh cap) (by simp[execOp,ho]) ?_ (hb▸hr);rw[hrun]
             split<;>simp[bB]
           . rw[if_neg hz];by_cases hcl:cap=l
             . subst hcl
               obtain rfl:hh=cap:=by omega
               refine aP (S:=Instr.sliceAt t (a.eval x) (lo.map a.eval) (hi.map a.eval) none) (u:= .slice (some ⟨b,off,none⟩) 0 0) (by simp[execOp,ho]) (by rw[hrun];simp) ?_;have hnil:cs.drop (hh*s)=[]:=List.drop_eq_nil_of_le (by omega);rw[hnil,Nat.sub_self];exact .sl (fun _=>default) (by simp) (by simp) (Nat.le_refl _) (fun i hi=>by simp at hi) (fun i x hx=>by simp at hx) (.inl rfl)
             . refine aP (S:=Instr.sliceAt t (a.eval x) (lo.map a.eval) (hi.map a.eval) none) (u:= .slice (some ⟨b,off+l*s,none⟩) (hh-l) (cap-l)) (by simp[execOp,ho]) (by rw[hrun,if_neg hcl];simp[bB]) ?_;exact qA k2 k4 k5 hle hlen hcap
       . split at h
         . rename_i hcnd;obtain⟨hz,rfl,rfl⟩:=hcnd;cases h;generalize hb:a.eval x=u at hr;have hr':=hr
           cases hr with
           | slnil=>
             refine aP (S:=Instr.sliceAt t (a.eval x) (lo.map a.eval) (hi.map a.eval) none) (u:= .slice none 0 0) (by simp[execOp,ho]) (by rw[run _ 0 0 0 0 hb h1 h2 (Nat.le_refl _) (Nat.le_refl _)];simp) hr'
           |slx=>cases hz
           |sl f hn hc hnc hi h ht=>rcases ht with rfl|⟨rfl,_⟩<;>cases hz
           |slo=>cases hz
         . cases h
     . cases h
   . rename_i sz' id off n he;rw[he]at hr;split at h
     . rename_i l hh h1 h2;split at h
       . rename_i hcnd;obtain⟨rfl,hpos,hle,hlen⟩:=hcnd;cases h;generalize hb:a.eval x=u at hr
         cases hr with
         | msl hl hnc=>
           rename_i b cap;have hrun:=run _ n cap l hh hb h1 h2 hle (by omega);by_cases hlh:l=hh
           . subst hlh;rw[if_pos rfl];refine aP (S:=Instr.sliceAt t (a.eval x) (lo.map a.eval) (hi.map a.eval) none) (by simp[execOp,ho]) hrun ?_;rw[Nat.sub_self];split
             . exact .sl (fun _=>default) (by simp) (by simp) (by omega) (fun i hi=>by simp at hi) (fun i x hx=>by simp at hx) (.inl rfl)
             . simp only[Option.map_some,bB];exact .sl (fun _=>default) (by simp) (by simp) (by omega) (fun i hi=>by simp at hi) (fun i x hx=>by simp at hx) (.inl rfl)
           . rw[if_neg hlh];refine aP (S:=Instr.sliceAt t (a.eval x) (lo.map a.eval) (hi.map a.eval) none) (u:= .slice (some ⟨b,off+l*s,none⟩) (hh-l) (cap-l)) (by simp[execOp,ho]) (by rw[hrun,if_neg (by omega)];simp[bB]) ?_;exact .msl hl (by omega)
       . cases h
     . cases h
   . cases h
 . rename_i x' lo' hi' hu hx hlo hhi;cases hc;have hr:=aM hT hx;simp only[aT]at h;split at h
   . rename_i s he;rw[he]at hr;split at h
     . rename_i l hh h1 h2;split at h
       . rename_i hcnd;cases h;refine aP (S:=Instr.sliceAt t (a.eval x) (lo.map a.eval) (hi.map a.eval) none) (u:= .string (s.extract l hh)) (by simp[execOp,ho]) ?_ (.str _);rw[cR hr];simp only[Instr.sliceAt,Instr.slice,Sem.run_bind,run_underlying hu,Result.andThen_ok,Option.isSome_none,Bool.false_eq_true,if_false,iI hT hlo hhi h1 h2 hcnd.1 hcnd.2 false,Sem.run_pure]
       . cases h
     . cases h
   . cases h
 . rename_i n e x' lo' hi' hu hx hlo hhi;obtain⟨s,hs,rfl⟩:=Option.map_eq_some_iff.1 hc;have hr:=aM hT hx;simp only[aT]at h;split at h
   case h_3=>cases h
   case h_2=>
     rename_i cs he;rw[he]at hr;split at h
     case h_2=>cases h
     rename_i l hh h1 h2;split at h
     case isFalse=>cases h
     rename_i hcnd;obtain⟨hle,hhn,hns⟩:=hcnd;cases h;generalize hb:a.eval x=u at hr
     cases hr with
     | bU f him hf=>
       rename_i b off
       have hrun:(Instr.sliceAt t (a.eval x) (lo.map a.eval) (hi.map a.eval) none).run P W= .ok (.slice (some (if n=l then⟨b,off,none⟩else(⟨b,off,none⟩:Addr).add (l*s))) (hh-l) (n-l)) W:=by
         rw[hb];simp only[Instr.sliceAt,Sem.run_bind,run_underlying hu,Result.andThen_ok,Instr.sureAddr,Sem.run_pure,iI hT hlo hhi h1 h2 hle hhn false,cz hs]
       by_cases hlh:l=hh
       . subst hlh;rw[if_pos rfl];refine aP (S:=Instr.sliceAt t (a.eval x) (lo.map a.eval) (hi.map a.eval) none) (by simp[execOp,ho]) hrun ?_;rw[Nat.sub_self];split
         . exact .sl (fun _=>default) (by simp) (by simp) (by omega) (fun i hi=>by simp at hi) (fun i x hx=>by simp at hx) (.inl rfl)
         . simp only[bB];exact .sl (fun _=>default) (by simp) (by simp) (by omega) (fun i hi=>by simp at hi) (fun i x hx=>by simp at hx) (.inl rfl)
       . rw[if_neg hlh];refine aP (S:=Instr.sliceAt t (a.eval x) (lo.map a.eval) (hi.map a.eval) none) (u:= .slice (some ⟨b,off+l*s,none⟩) (hh-l) (n-l)) (by simp[execOp,ho]) (by rw[hrun,if_neg (by omega)];simp[bB]) ?_;have e1:(hh-l)*s=hh*s-l*s:=Nat.sub_mul _ _ _;have e2:(n-l)*s=n*s-l*s:=Nat.sub_mul _ _ _;have e3:hh*s<=n*s:=Nat.mul_le_mul_right _ hhn
         have hlen:((cs.take (n*s)).drop (l*s)).length=n*s-l*s:=by rw[List.length_drop,List.length_take,Nat.min_eq_left hns]
         refine .sl (fun i=>f (l*s+i)) (by rw[hlen,e1];omega) (by rw[hlen,e2];exact Nat.le_refl _) (by omega) (fun i hi2=> ?_) (fun i y hy=> ?_) (.inl rfl)
         . rw[hlen]at hi2;rw[Nat.add_assoc];exact him (l*s+i) (by omega)
         . rw[List.getElem?_drop,List.getElem?_take]at hy;split at hy
           . exact hf _ y hy
           . cases hy
   rename_i id off he;rw[he]at hr;split at h
   case h_2=>cases h
   rename_i l hh h1 h2;split at h
   case isFalse=>cases h
   rename_i hcnd;cases h;obtain⟨b,hb,hl⟩:=gT hr
   have hrun:(Instr.sliceAt t (a.eval x) (lo.map a.eval) (hi.map a.eval) none).run P W= .ok (.slice (some (if n=l then⟨b,off,none⟩else(⟨b,off,none⟩:Addr).add (l*s))) (hh-l) (n-l)) W:=by
     rw[hb];simp only[Instr.sliceAt,Sem.run_bind,run_underlying hu,Result.andThen_ok,Instr.sureAddr,Sem.run_pure,iI hT hlo hhi h1 h2 hcnd.1 hcnd.2 false,cz hs]
   by_cases hlh:l=hh
   . subst hlh;rw[if_pos rfl];refine aP (S:=Instr.sliceAt t (a.eval x) (lo.map a.eval) (hi.map a.eval) none) (by simp[execOp,ho]) hrun ?_;rw[Nat.sub_self];split
     . exact .sl (fun _=>default) (by simp) (by simp) (by omega) (fun i hi=>by simp at hi) (fun i x hx=>by simp at hx) (.inl rfl)
     . simp only[bB];exact .sl (fun _=>default) (by simp) (by simp) (by omega) (fun i hi=>by simp at hi) (fun i x hx=>by simp at hx) (.inl rfl)
   . rw[if_neg hlh];refine aP (S:=Instr.sliceAt t (a.eval x) (lo.map a.eval) (hi.map a.eval) none) (u:= .slice (some ⟨b,off+l*s,none⟩) (hh-l) (n-l)) (by simp[execOp,ho]) (by rw[hrun,if_neg (by omega)];simp[bB]) ?_;exact .msl hl (by omega)
 . cases hc
theorem F1 (hT:aj V tm a.tmps.toList) {o:Oper} {t:TypeId} {x:Operand} {v:AV} {ao:AOp} (ho:o.op= .sliceToArrayPointer t x) (hc:cOp P o=some ao) (h:aT ao tm H=some v):e8 P V W a o v:=by
 simp only[cOp,ho]at hc;split at hc
 case h_2=>cases hc
 rename_i n e x' hu hx;cases hc;have hr:=aM hT hx
 have run:∀ad m c,a.eval x= .slice ad m c->n<=m->(Instr.arrayAt t (a.eval x)).run P W= .ok (.pointer ad) W:=by
   intro ad m c hb hle;rw[hb];simp only[Instr.arrayAt,Sem.run_bind,run_underlying hu,Result.andThen_ok];rw[if_neg (by omega)];rfl
 simp only[aT]at h;split at h
 . rename_i sz m cs tk he;rw[he]at hr;split at h
   case isFalse=>cases h
   rename_i hcnd;cases h
   rcases gB hr with⟨_,rfl,_⟩|⟨_,_,rfl,_⟩|⟨b,off,cap,f,hb,k1,k2,k3,k4,k5⟩
   . omega
   . omega
   . exact aP (S:=Instr.arrayAt t (a.eval x)) (by simp[execOp,ho]) (run _ _ _ hb hcnd.2) (.bU f k4 k5)
 . rename_i sz id off m he;rw[he]at hr;split at h
   case isFalse=>cases h
   rename_i hcnd;cases h;generalize hb:a.eval x=u at hr
   cases hr with
   | msl hl hnc=>
     exact aP (S:=Instr.arrayAt t (a.eval x)) (by simp[execOp,ho]) (run _ _ _ hb hcnd) (.ptr hl)
 . cases h
theorem K1 (hW:WR P w0 V H W) (hT:aj V tm a.tmps.toList) {o:Oper} {c:Call} {v:AV} {ao:AOp} (ho:o.op= .call c) (hb:c.callee= .builtin .len) (hc:cOp P o=some ao) (h:aT ao tm H=some v):e8 P V W a o v:=by
 obtain⟨callee,args,tys⟩:=c;simp only at hb;subst hb;simp only[cOp,ho,cc]at hc;split at hc
 . rename_i x t e1 e2;have a1:args= #[x]:=Array.ext' (by simpa using e1);have a2:tys= #[t]:=Array.ext' (by simpa using e2);subst a1 a2
   have fin:∀u,(Builtin.len_ #[t] o.type #[a.eval x]).run P W= .ok u W->Rep V v u->e8 P V W a o v:=fun u h1 h2=>
     ⟨u,by simp[execOp,ho,resolve,invoke,builtin,h1],h2⟩
   split at hc
   . rename_i n e x' hu hx;cases hc;simp only[aT,X.ev,Option.some.injEq]at h;subst h;exact fin (.int .i64 n) (by simp[Builtin.len_,run_underlying hu,goInt]) (.int _ _)
   . rename_i x' hu hx;cases hc;have hr:=aM hT hx;simp only[aT]at h;split at h
     case h_4=>
       rename_i s e1 e2;cases h;rw[e2]at hr;exact fin (.int .i64 s.size) (by rw[cR hr];simp[Builtin.len_,run_underlying hu,goInt]) (.int _ _)
     all_goals (first|(cases h;done)|(rename_i e1 e2;cases e1;done)|(rename_i e1;cases e1;done)|(rename_i e1 _;cases e1;done))
   . rename_i e x' hu hx;cases hc;have hr:=aM hT hx;simp only[aT]at h;split at h
     case h_1=>
       rename_i sz n cs tk e1 e2;cases h;rw[e2]at hr;refine fin (.int .i64 n) ?_ (.int _ _)
       rcases gB hr with⟨hb,rfl,_⟩|⟨a0,hb,rfl,_⟩|⟨b,off,cap,f,hb,_⟩<;>rw[hb]<;>simp[Builtin.len_,run_underlying hu,goInt]
     case h_2=>
       rename_i sz id off n e1 e2;cases h;rw[e2]at hr;generalize hb:a.eval x=u at hr;cases hr;exact fin (.int .i64 n) (by rw[hb];simp[Builtin.len_,run_underlying hu,goInt]) (.int _ _)
     case h_3=>
       rename_i sz id n e1 e2;cases h;rw[e2]at hr;generalize hb:a.eval x=u at hr;cases hr;exact fin (.int .i64 n) (by rw[hb];simp[Builtin.len_,run_underlying hu,goInt]) (.int _ _)
     all_goals (first|(cases h;done)|(rename_i e1 e2;cases e1;done)|(rename_i e1;cases e1;done)|(rename_i e1 _;cases e1;done))
   . rename_i k e x' hu hx;cases hc;have hr:=aM hT hx;simp only[aT]at h;split at h
     case h_5=>
       rename_i e1 e2;cases h;rw[e2]at hr;generalize hb:a.eval x=u at hr;cases hr;exact fin (.int .i64 0) (by rw[hb];simp[Builtin.len_,run_underlying hu,goInt]) (.int _ _)
     case h_6=>
       rename_i id e1 e2;rw[e2]at hr;split at h
       . rename_i es hes;cases h;obtain⟨b,hb,hl⟩:=uL hr;obtain⟨b',ents,clk,hb',_,hh,hk,_⟩:=hW.obj id _ hes;rw[hl]at hb';cases hb'
         have hlen:es.length=ents.size:=by have:=hk.1;simpa using this
         have hg:(getObj b).run P W= .ok (.map ents clk) W:=by simp[getObj,Sem.run,hh]
         refine fin (.int .i64 es.length) ?_ (.int _ _);rw[hb,hlen];simp[Builtin.len_,run_underlying hu,goInt,hg]
       . cases h
     all_goals (first|(cases h;done)|(rename_i e1 e2;cases e1;done)|(rename_i e1;cases e1;done)|(rename_i e1 _;cases e1;done))
   . cases hc
 . cases hc
theorem oS {b:Nat} {ents:Array MapEntry} {clk:Nat} (h:W.heap[b]? =some (.map ents clk)):(getObj b).run P W= .ok (.map ents clk) W:=by simp[getObj,Sem.run,h]
theorem rB {t:TypeId} {d:TypeDesc} (hu:P.underlying t=some d) {kk:Nat} (hk:kindOf P t=some kk) {x y:AV} {u u':Value} (hx:Rep V x u) (hy:Rep V y u') {b:Bool} (h:bk kk x y=some b):
   Instr.sameNow d u u'=some b:=by
 unfold bk at h;split at h
 . split at h
   . rename_i hc;cases h;rw[bu hx,bu hy]
     rcases de hk with⟨_,q,hu'⟩|⟨h0,_⟩|⟨h0,_⟩
     . rw[hu]at hu';cases hu';simp[Instr.sameNow,hc]
     . cases h0
     . cases h0
   . cases h
 . cases h;rw[dq hx,dq hy]
   rcases de hk with⟨h0,_⟩|⟨_,hu'⟩|⟨h0,_⟩
   . cases h0
   . rw[hu]at hu';cases hu';simp[Instr.sameNow]
   . cases h0
 . cases h;rw[cR hx,cR hy]
   rcases de hk with⟨h0,_⟩|⟨h0,_⟩|⟨_,hu'⟩
   . cases h0
   . cases h0
   . rw[hu]at hu';cases hu';simp[Instr.sameNow]
 . cases h
theorem lK {t:TypeId} {kk:Nat} (hk:kindOf P t=some kk) (e:Bool) (u:Value):(Instr.checkKey e 10000 t u).run P W= .ok () W:=by
 unfold Instr.checkKey
 rcases de hk with⟨_,q,hu⟩|⟨_,hu⟩|⟨_,hu⟩<;>simp only[Sem.run_bind,run_underlying hu,Result.andThen_ok,Sem.run_pure]
def Er (V:View):Option (Nat×AV)->Option (Nat×Value)->Prop
 |none,none=>True
 |some (j,y),some (j',v)=>j=j'/\Rep V y v
 |_,_=>False
theorem kf {t:TypeId} {d:TypeDesc} (hu:P.underlying t=some d) {kk:Nat} (hk:kindOf P t=some kk) {x:AV} {u:Value} (hx:Rep V x u):∀(es:List (AV×AV)) (ents:List MapEntry) (i:Nat) (r:Option (Nat×AV)),
   aj V (es.map (·.1)) (ents.map (·.key))->aj V (es.map (·.2)) (ents.map (·.val))->cw kk x es i=some r→
   ∃r',Instr.findNow d u ents i=some r'/\Er V r r'
 | [],ents,i,r,h1,_,h=>by
   have:ents=[]:=by have:=h1.1;simp at this;exact List.eq_nil_of_length_eq_zero this.symm
   subst this;simp only[cw,Option.some.injEq]at h;subst h;exact⟨none,rfl,trivial⟩
 |e::es,[],i,r,h1,_,h=>by have:=h1.1;simp at this
 | e::es,m::ents,i,r,h1,h2,h=>by
   simp only[cw]at h
   cases hce:bk kk x e.1 with
   |none=>simp[hce]at h
   | some b=>
     have hs:=rB hu hk hx h1.head hce
     cases b with
     | true=>
       simp only[hce,Option.some.injEq]at h;subst h;exact⟨some (i,m.val),by simp[Instr.findNow,hs],rfl,h2.head⟩
     | false=>
       simp only[hce]at h;obtain⟨r',hr',hm⟩:=kf hu hk hx es ents (i+1) r h1.tail h2.tail h;exact⟨r',by simp[Instr.findNow,hs,hr'],hm⟩
theorem eB {t:TypeId} {kk:Nat} (hk:kindOf P t=some kk) {x:AV} {u:Value} (hx:Rep V x u) {es:List (AV×AV)} {ents:List MapEntry} {r:Option (Nat×AV)}
   (h1:aj V (es.map (·.1)) (ents.map (·.key))) (h2:aj V (es.map (·.2)) (ents.map (·.val))) (h:cw kk x es 0=some r):
   ∃r',(Instr.findKey t u ents).run P W= .ok r' W/\Er V r r':=by
 have hd:∃d,P.underlying t=some d:=by rcases de hk with⟨_,q,hu⟩|⟨_,hu⟩|⟨_,hu⟩<;>exact⟨_,hu⟩
 obtain⟨d,hu⟩:=hd;obtain⟨r',hr',hm⟩:=kf hu hk hx es ents 0 r h1 h2 h;exact⟨r',by simp only[Instr.findKey,Sem.run_bind,run_underlying hu,Result.andThen_ok,hr',Sem.run_pure],hm⟩
theorem Cm (hW:WR P w0 V H W) (hT:aj V tm a.tmps.toList) {o:Oper} {t:TypeId} {x i:Operand} {ok:Bool} {v:AV} {ao:AOp} (ho:o.op= .lookup t x i ok) (hc:cOp P o=some ao) (h:aT ao tm H=some v):e8 P V W a o v:=by
 simp only[cOp,ho]at hc;split at hc
 . rename_i k e x' i' hu hx hi;split at hc
   . rename_i kk z hkk hz;cases hc;obtain⟨zv,inf,hinf,hzero,hsz,hrz,hrun⟩:=bQ (V:=V) hz;have hzr:=hrun W;have hr:=aM hT hx;have hri:=aM hT hi
     have hck:=fun e=>lK (W:=W) hkk e (a.eval i)
     simp only[aT]at h;split at h
     . rename_i he;rw[he]at hr
       have hb:a.eval x= .map none:=by generalize a.eval x=u at hr;cases hr;rfl
       split at h
       . cases h;refine aP (S:=Instr.lookup t (a.eval x) (a.eval i) ok) (u:=if ok then .tuple #[zv,.bool false] else zv) (by simp[execOp,ho]) ?_ ?_
         . have hf:=eB (V:=V) (W:=W) hkk hri (es:=[]) (ents:=[]) (r:=none) (aj.nil V) (aj.nil V) rfl;obtain⟨r',hf',hm⟩:=hf
           have:r'=none:=by
             cases r' with
             |none=>rfl
             |some r'=>exact hm.elim
           subst this;rw[hb];simp only[Instr.lookup,Sem.run_bind,run_underlying hu,Result.andThen_ok,Sem.run_pure,hck,hf',hzr]
         . cases ok
           . exact hrz
           . exact Rep.om (.cons hrz (.cons (.bool _) (.nil V)))
       . cases h
     . rename_i id he;rw[he]at hr;obtain⟨b,hb,hl⟩:=uL hr;split at h
       . rename_i es hes;obtain⟨b',ents,clk,hb',_,hh,hk1,hk2,_⟩:=hW.obj id _ hes;rw[hl]at hb';cases hb';have hg:=oS (P:=P) hh;split at h
         . rename_i v' e1 e2;cases h;obtain⟨r',hf',hm⟩:=eB (W:=W) hkk hri hk1 hk2 e2
           cases r' with
           |none=>exact hm.elim
           | some r'=>
             obtain⟨j',vv⟩:=r';refine aP (S:=Instr.lookup t (a.eval x) (a.eval i) ok) (u:=if ok then .tuple #[vv,.bool true] else vv) (by simp[execOp,ho]) ?_ ?_
             . rw[hb];simp only[Instr.lookup,Sem.run_bind,run_underlying hu,Result.andThen_ok,Sem.run_pure,hg,hck,hf']
             . cases ok
               . exact hm.2
               . exact Rep.om (.cons hm.2 (.cons (.bool _) (.nil V)))
         . rename_i e1 e2;cases h;obtain⟨r',hf',hm⟩:=eB (W:=W) hkk hri hk1 hk2 e2
           cases r' with
           |some r'=>exact hm.elim
           | none=>
             refine aP (S:=Instr.lookup t (a.eval x) (a.eval i) ok) (u:=if ok then .tuple #[zv,.bool false] else zv) (by simp[execOp,ho]) ?_ ?_
             . rw[hb];simp only[Instr.lookup,Sem.run_bind,run_underlying hu,Result.andThen_ok,Sem.run_pure,hg,hck,hf',hzr]
             . cases ok
               . exact hrz
               . exact Rep.om (.cons hrz (.cons (.bool _) (.nil V)))
         . cases h
       . cases h
     . cases h
   . cases hc
 . cases hc
theorem gx (n:Nat) (l:List AV):(bX n l).length=n*l.length:=by
 induction n with
 |zero=>simp[bX]
 |succ n ih=>simp[bX,ih,Nat.add_mul,Nat.add_comm]
theorem pI (l:List AV) (hl:0<l.length):∀(n i:Nat),i<n*l.length->(bX n l)[i]? =l[i % l.length]?
 |0,i,h=>by simp at h
 | n+1,i,h=>by
   simp only[bX];by_cases hi:i<l.length
   . rw[List.getElem?_append_left hi,Nat.mod_eq_of_lt hi]
   . rw[List.getElem?_append_right (by omega),pI l hl n (i-l.length) (by rw[Nat.add_mul]at h;omega)];congr 1
     conv=>rhs;rw[show i=(i-l.length)+l.length from by omega,Nat.add_mod_right]
theorem iN {V:View} {W:World} (hlt:∀p v,V.imm p=some v->p.block<W.heap.size) (vs:Array Value) (t:TypeId):Stp V W (V.see W.heap.size vs) (W.alloc (.cells vs t)) none:=by
 refine⟨⟨fun p v hp=> ?_,fun i l h=>h⟩,World.grownBy_alloc W _ none,fun p v hp=> ?_⟩
 . have:=hlt p v hp;show(if p.block=W.heap.size/\p.spot=none then vs[p.off]? else V.imm p)=some v
   rw[if_neg (by omega)];exact hp
 . change (if p.block=W.heap.size/\p.spot=none then vs[p.off]? else V.imm p)=some v at hp;split at hp
   . rename_i hc;exact .inr (.inl (by omega))
   . exact .inl hp
theorem WR.see (hW:WR P w0 V H W) (vs:Array Value) (t:TypeId) (h1:∀v∈vs.toList,v.oneCell'=true):WR P w0 (V.see W.heap.size vs) H (W.alloc (.cells vs t)):=by
 refine hW.step (iN hW.cV vs t) (fun p v hp=> ?_) hW.fresh;change (if p.block=W.heap.size/\p.spot=none then vs[p.off]? else V.imm p)=some v at hp;split at hp
 . rename_i hc;obtain⟨b,off,spot⟩:=p;obtain⟨rfl,rfl⟩:=hc;refine⟨by rw[World.cell?_alloc_new];exact hp,h1 v ?_⟩;have:=Array.mem_of_getElem? hp;simpa using this
 . exact⟨by rw[World.cell?_alloc_lt W _ p (hW.cV p v hp)];exact(hW.imm p v hp).1,(hW.imm p v hp).2⟩
theorem Jg (hW:WR P w0 V H W) (hT:aj V tm a.tmps.toList) {o:Oper} {t:TypeId} {x:Operand} {x':X} {v:AV} (ho:o.op= .box t x) (hx:cX x=some x') (h:aT (.p7 x') tm H=some v):
   ∃V' W' u,(execOp a.eval o).run P W= .ok (.value u) W'/\Rep V' v u/\Stp V W V' W' none/\WR P w0 V' H W'/\V'.loc=V.loc:=by
 simp only[aT]at h;split at h
 case isFalse=>cases h
 rename_i hone;cases h;have hr:=(aM hT hx).flat;have hone':=hr.aA hone;refine⟨V.see W.heap.size (a.eval x).cells,W.alloc (.cells (a.eval x).cells t),.pointer (some ⟨W.heap.size,0,none⟩), ?_, ?_,iN hW.cV _ t,hW.see _ t hone',rfl⟩
 . have:(Instr.box t (a.eval x)).run P W= .ok (.pointer (some ⟨W.heap.size,0,none⟩)) (W.alloc (.cells (a.eval x).cells t)):=by
     simp[Instr.box,newVar,newRow]
   simpa[execOp,ho] using cP this
 . have hr':=hr.mono (iN hW.cV (a.eval x).cells t).le
   have hl:(x'.ev tm).flat.length=(a.eval x).cells.size:=by rw[hr.1,Array.length_toList]
   refine .bU (fun k=>(a.eval x).cells[k]!) (fun k hk=> ?_) (fun k y hy=> ?_)
   . have hk':k<(a.eval x).cells.size:=by omega
     show(if W.heap.size=W.heap.size/\(none:Option Nat)=none then(a.eval x).cells[0+k]? else V.imm ⟨W.heap.size,0+k,none⟩)=_
     simp[hk']
   . have hk':k<(a.eval x).cells.size:=by have:=(List.getElem?_eq_some_iff.1 hy).1;omega
     refine hr'.2 k y _ hy ?_;simp[hk']
theorem qv (hT:aj V tm a.tmps.toList) {t e:TypeId} {len s:Nat} {z:AV} {ps:Array (Nat×Operand)} {qs:List (Nat×Nat×X)} {cs:List AV} (he:iH P t=some e) (hs:e9 P e=some s) (hz:zeroOf P e=some z)
   (hpos:0<s) (hlim:len*s<=16777216) (hq:parts ps.toList (fun i=>some (i*s,s))=some qs) (hf:dJ (bX len z.flat) (evP tm qs)=some cs):
   ∃vs':Array Value,(Instr.buildSlice t len (ps.map fun(i,x)=>(i,a.eval x))).run P W= .ok (.slice (some ⟨W.heap.size,0,none⟩) len len) (W.alloc (.cells vs' e))/\aj V cs vs'.toList:=by
 obtain⟨zv,i,hi,hzero,hsz,hrz,hrun⟩:=bQ (V:=V) hz;have hu:=dI he
 have his:i.size=s:=by simp[e9,hi]at hs;exact hs
 obtain⟨h1,h2⟩:=od (a:=a) hT hq
 have hzl:z.flat.length=s:=by rw[hrz.mE,hsz,his]
 have hbase:aj V (bX len z.flat) ((Array.range (len*s)).map (zv.cells[· % zv.cells.size]!)).toList:=by
   refine⟨by rw[gx,hzl];simp,fun j x u hx hu=> ?_⟩
   have hj:j<len*s:=by
     have:=(List.getElem?_eq_some_iff.1 hx).1;rw[gx,hzl]at this;exact this
   rw[pI z.flat (by omega) len j (by rw[hzl];exact hj)]at hx
   have hjs:j % s<zv.cells.size:=by rw[hsz,his];exact Nat.mod_lt _ hpos
   have e1:u=zv.cells[j % s]:=by
     simp[hj]at hu;rw[<-hu,hsz,his];exact getElem!_pos zv.cells _ hjs
   rw[hzl]at hx;refine hrz.flat.2 (j % s) x u hx ?_;rw[e1];simp[hjs]
 obtain⟨vs',hfill,hr⟩:=kM (fun i=>some (i*s,s)) _ _ _ _ _ hbase h1 h2 hf;refine⟨vs', ?_,hr⟩;by_cases h0:len*s=0
 . have hps:((Array.range (len*s)).map (zv.cells[· % zv.cells.size]!))= #[]:=by rw[h0,Array.range_zero',Array.map_empty]
   rw[hps]at hfill
   have hfill':Instr.fill (fun i=>some (i*s,s)) #[] (List.map (fun x=>(x.fst,a.eval x.snd)) ps.toList)=some vs':=by simpa using hfill
   simp only[Instr.buildSlice,Sem.run_bind,run_underlying hu,Result.andThen_ok,cz hs,h0,if_true];simp[Array.range_zero',hfill',newRow]
 . exact run_buildSlice W t e len _ vs' i zv hu hi hzero (by rw[his];omega) (by rw[his];exact h0) (by rw[his];exact hfill)
theorem Cy (hW:WR P w0 V H W) (hT:aj V tm a.tmps.toList) {o:Oper} {t:TypeId} {len:Nat} {ps:Array (Nat×Operand)} {v:AV} {ao:AOp} (ho:o.op= .buildSlice t len ps) (hc:cOp P o=some ao) (h:aT ao tm H=some v):
   ∃V' W' u,(execOp a.eval o).run P W= .ok (.value u) W'/\Rep V' v u/\Stp V W V' W' none/\WR P w0 V' H W'/\V'.loc=V.loc:=by
 simp only[cOp,ho]at hc;split at hc
 . rename_i e he;split at hc
   . rename_i s z hs hz;split at hc
     . rename_i hpos;obtain⟨qs,hq,rfl⟩:=Option.map_eq_some_iff.1 hc
       have core:∀cs tk,dJ (bX len z.flat) (evP tm qs)=some cs->(aA cs&&cs.length==len*s)=true->(tk= .ro∨tk= .e∨(tk= .e/\len=0))->v= .sl s len cs tk→
           ∃V' W' u,(execOp a.eval o).run P W= .ok (.value u) W'/\Rep V' v u/\Stp V W V' W' none/\WR P w0 V' H W'/\V'.loc=V.loc:=by
         intro cs tk hf hone htk hv;subst hv;simp only[Bool.and_eq_true,beq_iff_eq]at hone;obtain⟨vs',hrunS,hr⟩:=qv (W:=W) hT he hs hz hpos.1 hpos.2 hq hf
         have hlen:vs'.size=len*s:=by have:=hr.1;simp at this;omega
         have hone':=hr.aA hone.1;refine⟨V.see W.heap.size vs',W.alloc (.cells vs' e),.slice (some ⟨W.heap.size,0,none⟩) len len, ?_, ?_,iN hW.cV vs' e,hW.see vs' e hone',rfl⟩
         . have:=cP hrunS;simpa[execOp,ho] using this
         . have hr':=hr.mono (iN hW.cV vs' e).le;refine .sl (fun k=>vs'[k]!) (by omega) (by omega) (Nat.le_refl _) (fun k hk=> ?_) (fun k x hx=> ?_) ?_
           . have hk':k<vs'.size:=by omega
             show(if W.heap.size=W.heap.size/\(none:Option Nat)=none then vs'[0+k]? else V.imm ⟨W.heap.size,0+k,none⟩)=_
             simp[hk']
           . have hk':k<vs'.size:=by have:=(List.getElem?_eq_some_iff.1 hx).1;omega
             refine hr'.2 k x _ hx ?_;simp[hk']
           . rcases htk with rfl|rfl|⟨rfl,h0⟩
             . exact .inl rfl
             . exact .inr ⟨rfl,rfl,by omega⟩
             . exact .inr ⟨rfl,rfl,by omega⟩
       split at h
       . simp only[aT]at h;cases h
       split at h
       . simp only[aT]at h;split at h
         . rename_i cs hf;split at h
           . rename_i hone;cases h;exact core cs .e hf hone (.inr (.inl rfl)) rfl
           . cases h
         . cases h
       . simp only[aT]at h;split at h
         . rename_i cs hf;split at h
           . rename_i hone;cases h;refine core cs _ hf hone ?_ rfl;by_cases h0:len=0
             . rw[if_pos h0];exact .inr (.inl rfl)
             . rw[if_neg h0];exact .inl rfl
           . cases h
         . cases h
     . cases hc
   . cases hc
 . cases hc
theorem s8 (c:UInt8):∀(l:List UInt8),(List.range l.length).find? (fun i=>l[i]! ==c)=rA c l
 |[]=>rfl
 | b::r=>by
   rw[List.length_cons,List.range_succ_eq_map,List.find?_cons,rA];have h0:((b::r)[0]! ==c)=(b==c):=rfl;rw[h0]
   cases hb:b==c with
   |true=>rfl
   | false=>
     simp only[Bool.false_eq_true,if_false];rw[List.find?_map,<-s8 c r];rfl
theorem qU (s:ByteArray) (c:UInt8):Value.int .i64 (firstIdx s c)=(match rA c s.data.toList with|some i=> .int .i64 (i:Nat)|none=> .int .i64 (-1)):=by
 have e:(List.range s.size).find? (fun i=>s[i]! ==c)=rA c s.data.toList:=by
   rw[<-s8 c s.data.toList]
   have hl:s.data.toList.length=s.size:=by simp
   rw[hl];congr 1
   funext i
   congr 1;by_cases hi:i<s.size
   . rw[getElem!_pos s i hi,getElem!_pos s.data.toList i (by simpa using hi),Array.getElem_toList];rfl
   . rw[getElem!_neg s i hi,getElem!_neg s.data.toList i (by simpa using hi)]
 unfold firstIdx;rw[e]
 cases rA c s.data.toList<;>rfl
theorem yI (fn:Func) (h:fn.name= "internal/bytealg.IndexByteString"):Extern.find fn=some Extern.BytealgIndexByte.indexByte:=by
 unfold Extern.find;rw[h]
 kernel_rfl
theorem yr (fn:Func) (h:fn.name= "internal/bytealg.CountString"):Extern.find fn=some Extern.BytealgCount.count:=by
 unfold Extern.find;rw[h]
 kernel_rfl
theorem L9 (hT:aj V tm a.tmps.toList) {o:Oper} {f:FuncId} {args:Array Operand} {tys:Array TypeId} {k:Nat} {xs:List X} {ao:AOp} {v:AV} (ho:o.op= .call {callee:= .value (.func f),args,argTypes:=tys})
   (hk:(P.funcs[f]?).bind vn=some k) (hx:cK cX args.toList=some xs) (hc:uf k xs=some ao) (h:aT ao tm H=some v):e8 P V W a o v:=by
 cases hf:P.funcs[f]? with
 |none=>rw[hf]at hk;cases hk
 | some fn=>
   rw[hf,Option.bind_some]at hk;have hrs:=jz hT hx
   have two:∀{s:ByteArray} {q:Int} {x c:X},x.ev tm= .str s->c.ev tm= .int .u8 q->aj V (([x,c]:List X).map (·.ev tm)) (args.map a.eval).toList->args.map a.eval= #[.string s,.int .u8 q]:=by
     intro s q x c e1 e2 hrs;rw[List.map_cons,List.map_cons,List.map_nil,e1,e2]at hrs;rw[<-Array.toList_inj]
     match hl:(args.map a.eval).toList,hrs with
     | [u1,u2],hrs=>
       rw[cR hrs.head,bu hrs.tail.head]
     |[],hrs=>have:=hrs.1;simp at this
     |[_],hrs=>have:=hrs.1;simp at this
     |_::_::_::_,hrs=>have:=hrs.1;simp at this
   have hcall:(execOp a.eval o).run P W=(callFunc f (args.map a.eval)).run P W:=by
     simp[execOp,ho,resolve,Deferred.ofValue,invoke,Act.eval]
   unfold vn at hk;split at hk
   . rename_i hn;cases hk;simp only[Bool.and_eq_true,beq_iff_eq,Option.isNone_iff_eq_none]at hn;obtain⟨hb,hname,hnext⟩:=hn;unfold uf at hc
     split at hc<;>rename_i hk0
     case h_3=>cases hc
     case h_2=>cases hk0
     rename_i x c;cases hc;simp only[aT]at h;split at h
     case h_2=>cases h
     rename_i s q e1 e2;cases h;have hargs:=two e1 e2 hrs;have hrun:=run_callFunc_extern (P:=P) hf (by rw[hname];rfl) (by rw[hb];rfl) hnext (yI fn hname) #[.string s,.int .u8 q] W;rw[run_indexByte_string]at hrun;refine⟨.int .i64 (firstIdx s q.toNat.toUInt8), ?_, ?_⟩
     . rw[hcall,hargs,hrun];rfl
     . rw[qU];have e3:q.toNat.toUInt8=UInt8.ofNat q.toNat:=rfl;rw[e3]
       cases rA (UInt8.ofNat q.toNat) s.data.toList with
       |none=>exact .int _ _
       |some i=>exact .int _ _
   split at hk
   case isFalse=>cases hk
   rename_i hn;cases hk;simp only[Bool.and_eq_true,beq_iff_eq,Option.isNone_iff_eq_none]at hn;obtain⟨hb,hname,hnext⟩:=hn;unfold uf at hc
   split at hc<;>rename_i hk0
   case h_3=>cases hc
   case h_1=>cases hk0
   rename_i x c;cases hc;simp only[aT]at h;split at h
   case h_2=>cases h
   rename_i s q e1 e2;cases h;have hargs:=two e1 e2 hrs;have hrun:=run_callFunc_extern (P:=P) hf (by rw[hname];rfl) (by rw[hb];rfl) hnext (yr fn hname) #[.string s,.int .u8 q] W;rw[Lib.run_countString]at hrun;refine⟨.int .i64 (Lib.countByte s.data.toList q.toNat.toUInt8), ?_,.int _ _⟩;rw[hcall,hargs,hrun];rfl
theorem gz {sz bytes n:Nat} {zs:List AV} {l c:AV} (h:eo sz bytes zs l c=some n):∃kl kc,l= .int kl n/\c= .int kc n/\zs.length=sz/\aA zs=true/\n*bytes<=70368744177664/\n<=70368744177664:=by
 unfold eo at h;split at h
 . rename_i kl q kc q';split at h
   . rename_i hc;obtain⟨rfl,h0,h1,h2,h3,h4⟩:=hc;cases h;exact⟨kl,kc,by rw[Int.toNat_of_nonneg h0],by rw[Int.toNat_of_nonneg h0],h1,h2,h3,h4⟩
   . cases h
 . cases h
theorem mS {V:View} {zs:List AV} {zc:Array Value} (hr:aj V zs zc.toList) (n:Nat) (hp:0<zc.size∨n*zc.size=0):aj V (bX n zs) (madeCells zc (n*zc.size)).toList:=by
 have hl:zs.length=zc.size:=by have:=hr.1;simpa using this
 refine⟨by rw[gx,hl];simp[madeCells],fun j x u hx hu=> ?_⟩
 have hj:j<n*zc.size:=by
   have:=(List.getElem?_eq_some_iff.1 hx).1;rw[gx,hl]at this;exact this
 have hpos:0<zc.size:=by
   rcases hp with h|h
   . exact h
   . omega
 rw[pI zs (by omega) n j (by rw[hl];exact hj)]at hx;have hjs:j % zc.size<zc.size:=Nat.mod_lt _ hpos
 have e1:u=zc[j % zc.size]:=by
   simp[madeCells,hj]at hu;rw[<-hu];exact getElem!_pos zc _ hjs
 rw[hl]at hx;refine hr.2 (j % zc.size) x u hx ?_;rw[e1];simp[hjs]
theorem wQ {t e:TypeId} {i:TypeInfo} {zv:Value} (hu:P.underlying t=some (.slice e)) (hi:P.info? e=some i) (hz:i.zero=some zv) {kl kc:IntKind} {n:Nat} (h1:n*i.bytes<=70368744177664) (h2:n<=70368744177664):
   (Instr.makeSlice t (.int kl n) (.int kc n)).run P W= .ok (.slice (some ⟨W.heap.size,0,none⟩) n n) (W.alloc (.cells (madeCells zv.cells (n*i.size)) e)):=by
 have:=run_make (P:=P) W t e i zv hu hi hz kl kc n n (by omega) (Int.le_refl _) (by
   have:((i.bytes*n:Nat):Int)<=281474976710656:=by rw[Nat.mul_comm];omega
   rwa[Int.natCast_mul]at this) (by omega)
 simpa using this
theorem yh (hW:WR P w0 V H W) (hT:aj V tm a.tmps.toList) {o:Oper} {t:TypeId} {l c:Operand} {v:AV} {ao:AOp} (ho:o.op= .makeSlice t l c) (hc:cOp P o=some ao) (h:aT ao tm H=some v):
   ∃V' W' u,(execOp a.eval o).run P W= .ok (.value u) W'/\Rep V' v u/\Stp V W V' W' none/\WR P w0 V' H W'/\V'.loc=V.loc:=by
 simp only[cOp,ho]at hc;split at hc
 case h_2=>cases hc
 rename_i e l' c' he hl hc';split at hc
 case h_2=>cases hc
 rename_i i z hi hz;cases hc;obtain⟨zv,i',hi',hzero,hsz,hrz,_⟩:=bQ (V:=V) hz;rw[hi]at hi';cases hi';have hu:=dI he;split at h
 . simp only[aT]at h;cases h
 simp only[aT]at h;split at h
 case h_2=>cases h
 rename_i n hn;cases h;obtain⟨kl,kc,e1,e2,hzl,hone,h1,h2⟩:=gz hn;have hrl:=aM hT hl;have hrc:=aM hT hc';rw[e1]at hrl;rw[e2]at hrc;have hrun:=wQ (P:=P) (W:=W) hu hi hzero (kl:=kl) (kc:=kc) h1 h2;rw[<-bu hrl,<-bu hrc]at hrun;have hzf:=hrz.flat
 have hbase:=mS hzf n (by
   rcases Nat.eq_zero_or_pos zv.cells.size with h|h
   . right;rw[h];rfl
   . exact .inl h)
 rw[hsz]at hbase
 have hone':∀v∈(madeCells zv.cells (n*i.size)).toList,v.oneCell'=true:=by
   refine hbase.aA ?_;rw[ba];intro x hx
   have:∀n,x∈bX n z.flat->x∈z.flat:=by
     intro n
     induction n with
     |zero=>intro h;simp[bX]at h
     |succ n ih=>intro h;rw[bX,List.mem_append]at h;exact h.elim id ih
   exact(ba _).1 hone x (this n hx)
 have hlen:(madeCells zv.cells (n*i.size)).size=n*i.size:=size_madeCells _ _;refine⟨V.see W.heap.size (madeCells zv.cells (n*i.size)),_,.slice (some ⟨W.heap.size,0,none⟩) n n, ?_, ?_,iN hW.cV _ e,hW.see _ e hone',rfl⟩
 . have:=cP hrun;simpa[execOp,ho] using this
 . have hr':=hbase.mono (iN hW.cV (madeCells zv.cells (n*i.size)) e).le
   have hl2:(bX n z.flat).length=n*i.size:=by rw[gx,hzl]
   refine .sl (fun k=>(madeCells zv.cells (n*i.size))[k]!) (by omega) (by omega) (Nat.le_refl _) (fun k hk=> ?_) (fun k x hx=> ?_) (.inr ⟨rfl,rfl,hl2⟩)
   . have hk':k<(madeCells zv.cells (n*i.size)).size:=by omega
     show(if W.heap.size=W.heap.size/\(none:Option Nat)=none then(madeCells zv.cells (n*i.size))[0+k]? else V.imm ⟨W.heap.size,0+k,none⟩)=_
     simp[hk']
   . have hk':k<(madeCells zv.cells (n*i.size)).size:=by have:=(List.getElem?_eq_some_iff.1 hx).1;omega
     refine hr'.2 k x _ hx ?_;simp[hk']
theorem rW (hT:aj V tm a.tmps.toList) {o:Oper} {c:Call} {v:AV} {ao:AOp} {mx:Bool} (ho:o.op= .call c) (hb:c.callee= .builtin (if mx then .max else .min)) (hc:cOp P o=some ao) (h:aT ao tm H=some v):e8 P V W a o v:=by
 obtain⟨callee,args,tys⟩:=c;simp only at hb;subst hb
 have key:∀x y x' y',args.toList=[x,y]->cX x=some x'->cX y=some y'->aT (.mm mx x' y') tm H=some v->e8 P V W a o v:=by
   intro x y x' y' e1 hx hy h;have a1:args= #[x,y]:=Array.ext' (by simpa using e1);subst a1;have hrx:=aM hT hx;have hry:=aM hT hy;simp only[aT]at h;split at h
   . rename_i k n k' m g1 g2;cases h;rw[g1]at hrx;rw[g2]at hry;have hx':=bu hrx;have hy':=bu hry;refine⟨.int k (if mx then(if n<m then m else n)else(if m<n then m else n)), ?_,.int _ _⟩
     cases mx<;>simp[execOp,ho,resolve,invoke,builtin,Builtin.min_,Builtin.max_,Builtin.min2,Builtin.max2,hx',hy']
   . cases h
 cases mx
 . simp only[cOp,ho,cc,Bool.false_eq_true,if_false]at hc;split at hc
   . rename_i x y e1;split at hc
     . rename_i x' y' h1 h2;cases hc;exact key x y x' y' e1 h1 h2 h
     . cases hc
   . cases hc
 . simp only[cOp,ho,cc,if_true]at hc;split at hc
   . rename_i x y e1;split at hc
     . rename_i x' y' h1 h2;cases hc;exact key x y x' y' e1 h1 h2 h
     . cases hc
   . cases hc
theorem K2 (hW:WR P w0 V H W) (hT:aj V tm a.tmps.toList) {o:Oper} {args:Array Operand} {tys:Array TypeId} {v:AV} {ao:AOp}
   (ho:o.op= .call {callee:= .builtin .append,args:=args,argTypes:=tys}) (hc:cOp P o=some ao) (h:aT ao tm H=some v):
   ∃V' W' u,(execOp a.eval o).run P W= .ok (.value u) W'/\Rep V' v u/\Stp V W V' W' none/\WR P w0 V' H W'/\V'.loc=V.loc:=by
 simp only[cOp,ho,cc]at hc;split at hc
 . rename_i x y t u hargs htys;split at hc
   . rename_i htu;subst htu;split at hc
     . rename_i e he;split at hc
       . rename_i i z x' y' hi hz hx hy;cases hc;exfalso
         repeat' (split at h)
         all_goals simp[aT]at h
       . cases hc
     . cases hc
   . exfalso
     repeat' (split at hc)
     all_goals first|(cases hc;done)|(cases hc;simp[aT]at h)
 . cases hc
theorem gy (hW:WR P w0 V H W) (hT:aj V tm a.tmps.toList) {o:Oper} {v:AV} {ao:AOp} (hc:cOp P o=some ao) (h:aT ao tm H=some v):
   ∃V' W' u,(execOp a.eval o).run P W= .ok (.value u) W'/\Rep V' v u/\Stp V W V' W' none/\WR P w0 V' H W'/\V'.loc=V.loc:=by
 have same:e8 P V W a o v->∃V' W' u,(execOp a.eval o).run P W= .ok (.value u) W'/\Rep V' v u/\Stp V W V' W' none/\WR P w0 V' H W'/\V'.loc=V.loc:=fun⟨u,h1,h2⟩=>
   ⟨V,W,u,h1,h2,.refl V W none,hW,rfl⟩
 have hc0:=hc
 cases ho:o.op with
 | move x=>
   simp only[cOp,ho]at hc;obtain⟨x',hx,rfl⟩:=Option.map_eq_some_iff.1 hc;simp only[aT,Option.some.injEq]at h;subst h;exact same (zZ hT hx (fun ρ=>by simp[execOp,ho]))
 | assign x=>
   simp only[cOp,ho]at hc;obtain⟨x',hx,rfl⟩:=Option.map_eq_some_iff.1 hc;simp only[aT,Option.some.injEq]at h;subst h;exact same (zZ hT hx (fun ρ=>by simp[execOp,ho]))
 |pick c x y=>exact same (IZ hT ho hc h)
 |build t ps=>exact same (Dx hT ho hc h)
 |buildSlice t n ps=>exact Cy hW hT ho hc h
 |load t x=>exact same (IF hW hT ho hc h)
 |fieldAddr t x k=>exact same (Mf hW hT ho hc h)
 |field t x k=>exact same (J4 hT ho hc h)
 |indexAddr t x i=>exact same (LF hW hT ho hc h)
 |index t x i=>exact same (LZ hT ho hc h)
 |binOp op t x y t'=>exact same (Me hT ho hc h)
 |unOp op t x=>exact same (Nu hT ho hc h)
 |convert s d x=>exact JH hW hT ho hc h
 |makeInterface t x=>exact same (JR hT ho hc h)
 |makeFunc f fs cs=>exact same (Jv hT ho hc h)
 |lookup t x i ok=>exact same (Cm hW hT ho hc h)
 |typeAssert x s t ok=>exact same (yY hT ho hc h)
 |extract x i=>exact same (LC hT ho hc h)
 |slice t x lo hi mx=>exact same (Eh hT ho hc h)
 |nilCheck x=>exact same (DG hT ho hc h)
 |sliceToArrayPointer t x=>exact same (F1 hT ho hc h)
 | call c=>
   obtain⟨callee,args,tys⟩:=c
   cases callee with
   | value f=>
     by_cases hnat:∃g k,f= .func g/\(P.funcs[g]?).bind vn=some k
     . obtain⟨g,k,rfl,hk⟩:=hnat;simp only[cOp,ho,cc,hk]at hc;obtain⟨xs,hx,hc⟩:=Option.bind_eq_some_iff.1 hc;exact same (L9 hT ho hk hx hc h)
     have hno:∀g k,f= .func g->(P.funcs[g]?).bind vn=some k->False:=fun g k h1 h2=>hnat ⟨g,k,h1,h2⟩
     clear hnat;exfalso;simp only[cOp,ho,cc]at hc
     cases f<;>simp only at hc
     case func f=>
       split at hc
       . exfalso;rename_i k hk;exact hno f k rfl hk
       obtain⟨xs,_,rfl⟩:=Option.map_eq_some_iff.1 hc;split at h
       . cases h
       . split at h
         . cases h
         . split at h<;>cases h
     all_goals
       split at hc
       . cases hc;cases h
       . cases hc
   |invoke r m=>simp[cOp,ho,cc]at hc
   | builtin b=>
     cases b<;>first
       |exact K2 hW hT ho hc h
       |exact same (K1 hW hT ho rfl hc h)
       |exact same (rW (mx:=false) hT ho rfl hc h)
       |exact same (rW (mx:=true) hT ho rfl hc h)
       |(exfalso;simp[cOp,ho,cc]at hc;done)
       |(exfalso;simp only[cOp,ho,cc]at hc;split at hc<;>(try (cases hc;done))<;>split at hc<;>(try (cases hc;done))<;>split at hc<;>(try (cases hc;done))<;>split at hc<;>(try (cases hc;done))<;>cases hc<;>cases h)
       | (exfalso;simp only[cOp,ho,cc]at hc;repeat' (split at hc)
          all_goals first|(cases hc;done)|(cases hc;cases h))
       |(exfalso;simp only[cOp,ho,cc]at hc;split at hc<;>cases hc<;>cases h)
 | alloc t=>
   exfalso;simp only[cOp,ho]at hc;split at hc
   . split at hc<;>cases hc;cases h
   . cases hc
 | box t x=>
   simp only[cOp,ho]at hc;obtain⟨x',hx,rfl⟩:=Option.map_eq_some_iff.1 hc;split at h
   . cases h
   split at h
   . exact Jg hW hT ho hx h
   . simp[aT]at h
 |store t x y=>exfalso;simp only[cOp,ho]at hc;split at hc<;>cases hc;cases h
 |makeSlice t l c=>exact yh hW hT ho hc h
 |makeMap t r=>exfalso;cases r<;>simp[cOp,ho]at hc;subst hc;cases h
 | mapUpdate t m k x=>
   exfalso;simp only[cOp,ho]at hc;split at hc
   . obtain⟨kk,_,rfl⟩:=Option.map_eq_some_iff.1 hc;cases h
   . cases hc
 | insert t m k x=>
   exfalso;simp only[cOp,ho]at hc;split at hc
   . obtain⟨kk,_,rfl⟩:=Option.map_eq_some_iff.1 hc;cases h
   . cases hc
 | defer c=>
   exfalso;simp only[cOp,ho]at hc;split at hc
   . split at hc<;>cases hc;cases h
   . cases hc
 |panic x=>exfalso;simp only[cOp,ho]at hc;obtain⟨x',_,rfl⟩:=Option.map_eq_some_iff.1 hc;cases h
 |_=>simp[cOp,ho]at hc
end Go.Am
