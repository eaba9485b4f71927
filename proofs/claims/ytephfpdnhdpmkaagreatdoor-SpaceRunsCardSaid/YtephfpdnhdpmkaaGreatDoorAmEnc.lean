/- PLAIN LEMMAS FOR WALKS: rows of equal records as cells, integers that fit, what an operation on them comes to. No condition. -/
import Derived.Test.YtephfpdnhdpmkaaGreatDoorAmWp
open Int (reduceEq)
open Nat (reduceEqDiff reduceAdd reduceMul reduceLT reduceLeDiff)
set_option linter.all false
namespace Go.Am
open Go
def encs {α:Type} (f:α->List AV) (l:List α):List AV:=l.flatMap f
theorem encs_nil {α:Type} (f:α->List AV):encs f []=[]:=(rfl)
theorem encs_cons {α:Type} (f:α->List AV) (x:α) (l:List α):encs f (x::l)=f x++encs f l:=(rfl)
theorem encs_append {α:Type} (f:α->List AV) (l m:List α):encs f (l++m)=encs f l++encs f m:=by
 simp only[encs,List.flatMap_append]
class Even {α:Type} (f:α->List AV) (k:outParam Nat):Prop where
 len:∀x,(f x).length=k
theorem encs_length {α:Type} {f:α->List AV} {k:Nat} [h:Even f k] (l:List α):(encs f l).length=l.length*k:=by
 induction l with
 |nil=>simp[encs]
 |cons x l ih=>rw[encs_cons,List.length_append,h.len,ih,List.length_cons,Nat.succ_mul,Nat.add_comm]
theorem encs_drop {α:Type} {f:α->List AV} {k:Nat} [h:Even f k] (l:List α) (j:Nat):(encs f l).drop (j*k)=encs f (l.drop j):=by
 induction l generalizing j with
 |nil=>simp[encs]
 | cons x l ih=>
   cases j with
   |zero=>simp
   | succ j=>
     rw[encs_cons,List.drop_succ_cons,<-ih,Nat.succ_mul,Nat.add_comm,<-List.drop_drop,List.drop_append_of_le_length (by rw[h.len];exact Nat.le_refl _),<-h.len x,List.drop_length,List.nil_append]
theorem drop_pre {α:Type} {f:α->List AV} {k:Nat} [h:Even f k] (pre suf:List α):(encs f (pre++suf)).drop (pre.length*k)=encs f suf:=by
 rw[encs_drop,List.drop_left]
theorem drop_pre2 {α:Type} {f:α->List AV} {k:Nat} [h:Even f k] (pre suf:List α) (rest:List AV):(encs f (pre++suf)++rest).drop (pre.length*k)=encs f suf++rest:=by
 rw[List.drop_append_of_le_length (by rw[encs_length,List.length_append];exact Nat.mul_le_mul_right _ (Nat.le_add_right _ _)),drop_pre]
theorem cast_succ (j:Nat):((j+1:Nat):Int)=(j:Int)+1:=(rfl)
theorem ite_pos {α:Type} {p:Prop} [Decidable p] {a b:α} (h:p):(if p then a else b)=a:=if_pos h
theorem ite_neg {α:Type} {p:Prop} [Decidable p] {a b:α} (h:¬p):(if p then a else b)=b:=if_neg h
theorem hfL_append (a b:List AV):hfL (a++b)=(hfL a&&hfL b):=by
 induction a with
 |nil=>simp[hfL]
 |cons x a ih=>simp only[List.cons_append,hfL,ih,Bool.and_assoc]
theorem hfL_encs {α:Type} {f:α->List AV} (h:∀x,hfL (f x)=true) (l:List α):hfL (encs f l)=true:=by
 induction l with
 |nil=>rfl
 |cons x l ih=>rw[encs_cons,hfL_append,h,ih];rfl
theorem allOne_append (a b:List AV):allOne (a++b)=(allOne a&&allOne b):=by
 induction a with
 |nil=>simp[allOne]
 |cons x a ih=>simp only[List.cons_append,allOne,ih,Bool.and_assoc]
theorem allOne_encs {α:Type} {f:α->List AV} (h:∀x,allOne (f x)=true) (l:List α):allOne (encs f l)=true:=by
 induction l with
 |nil=>rfl
 |cons x l ih=>rw[encs_cons,allOne_append,h,ih];rfl
theorem wrap_i64_eq (x:Int):IntKind.i64.wrap x=if 9223372036854775808<=x % 18446744073709551616 then x % 18446744073709551616-18446744073709551616 else x % 18446744073709551616:=by
 simp[IntKind.wrap,IntKind.bits,IntKind.signed]
theorem wrap_i64 {x:Int} (h1: -9223372036854775808<=x) (h2:x<9223372036854775808):IntKind.i64.wrap x=x:=by
 rw[wrap_i64_eq]
 split<;>omega
theorem wrap_u64 {x:Int} (h1:0<=x) (h2:x<18446744073709551616):IntKind.u64.wrap x=x:=by
 simp only[IntKind.wrap,IntKind.bits,IntKind.signed,Bool.false_and,Bool.false_eq_true,if_false]
 omega
section bin
variable {k:IntKind} {a b:Int} {ek:EqK} {xo yo:X}
theorem bv_add:binV .add ek xo yo (.int k a) (.int k b)=some (.int k (k.wrap (a+b))):=by simp[binV,binInt]
theorem bv_sub:binV .sub ek xo yo (.int k a) (.int k b)=some (.int k (k.wrap (a-b))):=by simp[binV,binInt]
theorem bv_mul:binV .mul ek xo yo (.int k a) (.int k b)=some (.int k (k.wrap (a*b))):=by simp[binV,binInt]
theorem bv_quo (h:b≠0):binV .quo ek xo yo (.int k a) (.int k b)=some (.int k (k.wrap (a.tdiv b))):=by simp[binV,binInt,h]
theorem bv_rem (h:b≠0):binV .rem ek xo yo (.int k a) (.int k b)=some (.int k (a.tmod b)):=by simp[binV,binInt,h]
theorem bv_eql:binV .eql ek xo yo (.int k a) (.int k b)=some (.bool (decide (a=b))):=by
 simp only[binV,binInt,if_true]
 by_cases h:a=b<;>simp[h]
theorem bv_neq:binV .neq ek xo yo (.int k a) (.int k b)=some (.bool (decide (¬a=b))):=by
 simp only[binV,binInt,if_true]
 by_cases h:a=b<;>simp[h]
theorem bv_lss:binV .lss ek xo yo (.int k a) (.int k b)=some (.bool (decide (a<b))):=by simp[binV,binInt]
theorem bv_leq:binV .leq ek xo yo (.int k a) (.int k b)=some (.bool (decide (a<=b))):=by simp[binV,binInt]
theorem bv_gtr:binV .gtr ek xo yo (.int k a) (.int k b)=some (.bool (decide (b<a))):=by simp[binV,binInt]
theorem bv_geq:binV .geq ek xo yo (.int k a) (.int k b)=some (.bool (decide (b<=a))):=by simp[binV,binInt]
theorem bv_seql {ks:List Nat} {xs ys:List AV} {b:Bool} (h:cellsEq ks xs ys=some b):binV .eql (.struct ks) xo yo (.agg xs) (.agg ys)=some (.bool b):=by
 simp only[binV,eqV,h,Option.map_some]
theorem bv_sneq {ks:List Nat} {xs ys:List AV} {b:Bool} (h:cellsEq ks xs ys=some b):binV .neq (.struct ks) xo yo (.agg xs) (.agg ys)=some (.bool !b):=by
 simp only[binV,eqV,h,Option.map_some]
theorem bv_sneqd {ks:List Nat} {xs ys:List AV} {p:Prop} [Decidable p] (h:cellsEq ks xs ys=some (decide p)):binV .neq (.struct ks) xo yo (.agg xs) (.agg ys)=some (.bool (decide (¬p))):=by
 rw[bv_sneq h,decide_not]
theorem bv_beql {p q:Bool}:binV .eql .bool xo yo (.bool p) (.bool q)=some (.bool (p==q)):=(rfl)
theorem bv_bneq {p q:Bool}:binV .neq .bool xo yo (.bool p) (.bool q)=some (.bool (!(p==q))):=(rfl)
theorem uv_not {p:Bool}:unV .not (.bool p)=some (.bool !p):=(rfl)
theorem uv_not_dec {p:Prop} [Decidable p]:unV .not (.bool (decide p))=some (.bool (decide (¬p))):=by
 by_cases h:p<;>simp[unV,h]
theorem uv_neg:unV .neg (.int k a)=some (.int k (k.wrap (0-a))):=(rfl)
end bin
theorem cellsEq_ii {k k':IntKind} {a b c d:Int}:cellsEq [0,0] [.int k a,.int k' b] [.int k c,.int k' d]=some (decide (a=c/\b=d)):=by
 have e1:∀x y:Int,(x==y)=decide (x=y):=fun x y=>by by_cases h:x=y<;>simp[h]
 simp only[cellsEq,cellEq,if_true,e1]
 by_cases h1:a=c<;>by_cases h2:b=d<;>simp only[h1,h2,decide_true,decide_false,and_self,and_true,true_and,false_and,and_false]
theorem bv_seqlii {xo yo:X} {k k':IntKind} {a b c d:Int}:binV .eql (.struct [0,0]) xo yo (.agg [.int k a,.int k' b]) (.agg [.int k c,.int k' d])=some (.bool (decide (a=c/\b=d))):=bv_seql cellsEq_ii
theorem bv_sneqdii {xo yo:X} {k k':IntKind} {a b c d:Int}:binV .neq (.struct [0,0]) xo yo (.agg [.int k a,.int k' b]) (.agg [.int k c,.int k' d])=some (.bool (decide (¬(a=c/\b=d)))):=bv_sneqd cellsEq_ii
theorem lend_sl (sz n:Nat) (cs:List AV) (tk:Tk):∃tk',lend (.sl sz n cs tk)= .sl sz n cs tk'/\tk'.hf=true:=by
 cases tk<;>exact⟨_,rfl,rfl⟩
theorem hf_lend_sl (sz n:Nat) (cs:List AV) (tk:Tk):(lend (.sl sz n cs tk)).hf=hfL cs:=by
 cases tk<;>simp[lend,unown,AV.hf,Tk.hf]
theorem hf_lend_int (k:IntKind) (n:Int):(lend (.int k n)).hf=true:=(rfl)
theorem hf_lend_bool (b:Bool):(lend (.bool b)).hf=true:=(rfl)
theorem hf_lend_str (b:ByteArray):(lend (.str b)).hf=true:=(rfl)
theorem flat_int (k:IntKind) (n:Int):AV.flat (.int k n)=[.int k n]:=(rfl)
theorem one_int (k:IntKind) (n:Int):AV.one (.int k n)=true:=(rfl)
theorem flat_bool (b:Bool):AV.flat (.bool b)=[.bool b]:=(rfl)
theorem one_bool (b:Bool):AV.one (.bool b)=true:=(rfl)
theorem flat_str (s:ByteArray):AV.flat (.str s)=[.str s]:=(rfl)
theorem one_str (s:ByteArray):AV.one (.str s)=true:=(rfl)
theorem flat_sl (sz n:Nat) (cs:List AV) (tk:Tk):AV.flat (.sl sz n cs tk)=[.sl sz n cs tk]:=(rfl)
theorem one_sl (sz n:Nat) (cs:List AV) (tk:Tk):AV.one (.sl sz n cs tk)=true:=(rfl)
theorem flat_msl (sz id off n:Nat):AV.flat (.msl sz id off n)=[.msl sz id off n]:=(rfl)
theorem one_msl (sz id off n:Nat):AV.one (.msl sz id off n)=true:=(rfl)
theorem flat_ptr (id off:Nat):AV.flat (.ptr id off)=[.ptr id off]:=(rfl)
theorem one_ptr (id off:Nat):AV.one (.ptr id off)=true:=(rfl)
theorem flat_nilp:AV.flat (.nilp)=[.nilp]:=(rfl)
theorem one_nilp:AV.one (.nilp)=true:=(rfl)
theorem flat_eptr (cs:List AV):AV.flat (.eptr cs)=[.eptr cs]:=(rfl)
theorem one_eptr (cs:List AV):AV.one (.eptr cs)=true:=(rfl)
theorem flat_rsl (s i n:Nat):AV.flat (.rsl s i n)=[.rsl s i n]:=(rfl)
theorem one_rsl (s i n:Nat):AV.one (.rsl s i n)=true:=(rfl)
theorem flat_bnd (f:FuncId) (cs:List AV):AV.flat (.bnd f cs)=[.bnd f cs]:=(rfl)
theorem one_bnd (f:FuncId) (cs:List AV):AV.one (.bnd f cs)=true:=(rfl)
theorem flat_fn (f:FuncId) (cs:List AV):AV.flat (.fn f cs)=[.fn f cs]:=(rfl)
theorem one_fn (f:FuncId) (cs:List AV):AV.one (.fn f cs)=true:=(rfl)
theorem flat_nilf:AV.flat (.nilf)=[.nilf]:=(rfl)
theorem one_nilf:AV.one (.nilf)=true:=(rfl)
theorem flat_iface (t:TypeId) (v:AV):AV.flat (.iface t v)=[.iface t v]:=(rfl)
theorem one_iface (t:TypeId) (v:AV):AV.one (.iface t v)=true:=(rfl)
theorem flat_nili:AV.flat (.nili)=[.nili]:=(rfl)
theorem one_nili:AV.one (.nili)=true:=(rfl)
theorem flat_mp (id:Nat):AV.flat (.mp id)=[.mp id]:=(rfl)
theorem one_mp (id:Nat):AV.one (.mp id)=true:=(rfl)
theorem flat_nilm:AV.flat (.nilm)=[.nilm]:=(rfl)
theorem one_nilm:AV.one (.nilm)=true:=(rfl)
theorem flat_agg (cs:List AV):AV.flat (.agg cs)=cs:=(rfl)
theorem lend_ro (sz n:Nat) (cs:List AV):lend (.sl sz n cs .ro)= .sl sz n cs .ro:=(rfl)
theorem lend_int (k:IntKind) (n:Int):lend (.int k n)= .int k n:=(rfl)
theorem lend_bool (b:Bool):lend (.bool b)= .bool b:=(rfl)
theorem lend_str (b:ByteArray):lend (.str b)= .str b:=(rfl)
def tokOf:AV->Option Nat
 | .sl _ _ _ (.own g)=>some g
 |_=>none
def Own (H:Heap) (sz:Nat) (v:AV) (n:Nat) (cs:List AV):Prop:=
 ((v= .sl 0 n cs .z∨v= .sl sz n cs .e)/\n=0/\cs=[])∨(n≠0/\∃g,v= .sl sz n cs (.own g)/\H[g]? =some (.tok sz))
def Kept (g:Option Nat) (H H':Heap):Prop:=∀id o,H[id]? =some o->g≠some id->H'[id]? =some o
theorem Kept.cells {g:Option Nat} {H H':Heap} (h:Kept g H H') {sz:Nat} {v:AV} {n:Nat} {cs:List AV} (ho:Own H sz v n cs) (hg:g=tokOf v) {id:Nat} {o:AObj} (hc:H[id]? =some o) (hn:∀s,o≠ .tok s):H'[id]? =some o:=by
 refine h id o hc ?_
 subst hg
 rcases ho with⟨rfl|rfl,_,_⟩|⟨_,g,rfl,hg⟩
 . simp[tokOf]
 . simp[tokOf]
 . simp only[tokOf,ne_eq,Option.some.injEq]
   rintro rfl
   rw[hg]at hc
   cases hc
   exact hn _ rfl
theorem Own.kept {H H':Heap} {sz:Nat} {v:AV} {n:Nat} {cs:List AV} (ho:Own H sz v n cs) {g:Option Nat} (h:Kept g H H') (hg:g=none∨g≠tokOf v):Own H' sz v n cs:=by
 rcases ho with h1|⟨h0,g',rfl,hg'⟩
 . exact .inl h1
 . refine .inr ⟨h0,g',rfl,h g' _ hg' ?_⟩
   rcases hg with hg|hg
   . rw[hg];simp
   . exact hg
theorem Own.ne_tok {H:Heap} {sz:Nat} {v:AV} {n:Nat} {cs:List AV} (ho:Own H sz v n cs) {i:Nat} {o:AObj} (h:H[i]? =some o) (hn:∀s,o≠ .tok s):some i=none∨some i≠tokOf v:=by
 right
 rcases ho with⟨rfl|rfl,_,_⟩|⟨_,g,rfl,hg⟩
 . simp[tokOf]
 . simp[tokOf]
 . simp only[tokOf,ne_eq,Option.some.injEq]
   rintro rfl
   rw[hg]at h
   cases h
   exact hn _ rfl
theorem Own.set {H:Heap} {sz:Nat} {v:AV} {n:Nat} {cs:List AV} (ho:Own H sz v n cs) {i:Nat} {o q:AObj} (h:H[i]? =some o) (hn:∀s,o≠ .tok s):Own (H.set i q) sz v n cs:=
 ho.kept (g:=some i) (fun j r hr hj=>by rw[List.getElem?_set_ne (by simpa using hj)];exact hr) (ho.ne_tok h hn)
section
variable {cb:CB} {rd:Option Nat} {n:Nat} {Q:KP} {ks:List Kt} {E:Env} {df:List ADf} {H:Heap}
theorem runX_app {sz bytes:Nat} {x:AV} {m:Nat} {ds:List AV} {tk:Tk} {n0:Nat} {cs:List AV} {d:Option Nat} {rest:List AOper} (ho:Own H sz x n0 cs) (hz:0<sz) (hb:(n0+m)*bytes<=70368744177664) (hb2:n0+m<=70368744177664)
   (hm:m≠0) (hl:ds.length=m*sz) (h1:allOne ds=true)
   (k:∀H',Own H' sz (.sl sz (n0+m) (cs++ds) (.own H.length)) (n0+m) (cs++ds)->Kept (tokOf x) H H'->H.length<H'.length->RR cb rd n Q rest ks (updD E d (.sl sz (n0+m) (cs++ds) (.own H.length))) df H'):
   RunX (appV sz bytes x (.sl sz m ds tk) H) d rest cb rd n Q ks E df:=by
 have ht:ds.take (m*sz)=ds:=List.take_of_length_le (by omega)
 rcases ho with⟨hx,rfl,rfl⟩|⟨_,g,rfl,hg⟩
 . have hb3:m*bytes<=70368744177664:=by simpa using hb
   have hb4:m<=70368744177664:=by omega
   have key:appV sz bytes x (.sl sz m ds tk) H=some (.val (.sl sz m ds (.own H.length)),H++[.tok sz]):=by
     rcases hx with rfl|rfl<;>simp only[appV,ht,hl,hm,hz,hb,hb2,h1,if_true,if_false,true_and,and_true,Nat.le_refl,List.length_nil,Nat.zero_mul,Nat.zero_add,List.nil_append,hb3,hb4,and_self]
   rw[key,runX_val]
   have k:=k (H++[.tok sz])
   simp only[Nat.zero_add,List.nil_append]at k
   refine k (.inr ⟨by omega,H.length,rfl,by simp⟩) ?_ (by simp)
   intro id o ho _
   rw[List.getElem?_append_left (List.getElem?_eq_some_iff.1 ho).1]
   exact ho
 . have key:appV sz bytes (.sl sz n0 cs (.own g)) (.sl sz m ds tk) H=some (.val (.sl sz (n0+m) (cs++ds) (.own H.length)),H.set g .dead++[.tok sz]):=by
     simp only[appV,ht,hl,hm,hz,hb,hb2,h1,hg,if_true,if_false,true_and,and_true,and_self,Nat.le_refl]
   rw[key,runX_val]
   refine k _ (.inr ⟨by omega,H.length,rfl,by simp⟩) ?_ (by simp)
   intro id o ho hne
   rw[List.getElem?_append_left (by rw[List.length_set];exact(List.getElem?_eq_some_iff.1 ho).1),List.getElem?_set_ne (by simpa[tokOf] using hne)]
   exact ho
end
def prRow {α:Type} (sz:Nat) (f:α->List AV) (l:List α):PR:=if l.isEmpty then .plain (.sl 0 l.length (encs f l) .z)else .fresh sz l.length (encs f l)
section
variable {cb:CB} {rd:Option Nat} {n:Nat} {Q:KP} {ks:List Kt} {E:Env} {df:List ADf} {H:Heap}
end
def slvR {α:Type} (sz:Nat) (f:α->List AV) (l:List α):AV:=if l.isEmpty then .sl 0 l.length (encs f l) .z else .sl sz l.length (encs f l) .ro
theorem slvR_form {α:Type} (sz:Nat) (f:α->List AV) (l:List α):∃s tk,slvR sz f l= .sl s l.length (encs f l) tk/\(l≠[]->s=sz)/\tk.hf=true:=by
 cases l with
 |nil=>exact⟨0,.z,rfl,fun h=>absurd rfl h,rfl⟩
 |cons x r=>exact⟨sz,.ro,rfl,fun _=>rfl,rfl⟩
theorem own_unown {α:Type} {sz:Nat} {f:α->List AV} {l:List α} {H:Heap} {v:AV} (h:Own H sz v l.length (encs f l)) (hne:∀s n c,v≠ .sl s n c .e):unown v=slvR sz f l:=by
 rcases h with⟨h0,h1,h2⟩|⟨h0,g,rfl,hg⟩
 . have:l=[]:=List.length_eq_zero_iff.1 h1
   subst this
   rcases h0 with rfl|rfl
   . rfl
   . exact absurd rfl (hne _ _ _)
 . have:l.isEmpty=false:=by cases l<;>simp at h0 ⊢
   simp[unown,slvR,this]
theorem own_sl {sz n:Nat} {H:Heap} {v:AV} {cs:List AV} (h:Own H sz v n cs):∃s m c tk,v= .sl s m c tk:=by
 rcases h with⟨h0,_,_⟩|⟨_,g,rfl,_⟩
 . rcases h0 with rfl|rfl
   . exact⟨_,_,_,_,rfl⟩
   . exact⟨_,_,_,_,rfl⟩
 . exact⟨_,_,_,_,rfl⟩
theorem slvR_one {α:Type} {sz:Nat} {f:α->List AV} (l:List α):(slvR sz f l).one=true:=by
 unfold slvR
 split<;>rfl
theorem slvR_flat {α:Type} {sz:Nat} {f:α->List AV} (l:List α):(slvR sz f l).flat=[slvR sz f l]:=by
 unfold slvR
 split<;>rfl
theorem purify_row {α:Type} {sz:Nat} {f:α->List AV} {l:List α} {H:Heap} {v:AV} (hf:∀x,hfL (f x)=true) (h:Own H sz v l.length (encs f l)) (hne:l=[]->∀s n c,v≠ .sl s n c .e):purify (some (.ret v,H))=some (prRow sz f l):=by
 rcases h with⟨h0,h1,h2⟩|⟨h0,g,rfl,hg⟩
 . have:l=[]:=List.length_eq_zero_iff.1 h1
   subst this
   rcases h0 with rfl|rfl
   . rfl
   . exact absurd rfl (hne rfl _ _ _)
 . have:l.isEmpty=false:=by cases l<;>simp at h0 ⊢
   simp only[purify,hg,prRow,this,hfL_encs hf,decide_true,beq_self_eq_true,Bool.and_self,Bool.true_and,if_true,Bool.false_eq_true,if_false]
end Go.Am
