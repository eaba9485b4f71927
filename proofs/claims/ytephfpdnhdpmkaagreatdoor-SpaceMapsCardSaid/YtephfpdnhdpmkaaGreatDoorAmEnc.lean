/- PLAIN LEMMAS FOR WALKS: rows of equal records as cells, integers that fit, what an operation on them comes to. No condition. -/
import Derived.Test.YtephfpdnhdpmkaaGreatDoorAmWp
open Int (reduceEq)
open Nat (reduceEqDiff reduceAdd reduceMul reduceLT reduceLeDiff)
set_option linter.all false
namespace Go.Am
open Go
def ah {α:Type} (f:α->List AV) (l:List α):List AV:=l.flatMap f
theorem vF {α:Type} (f:α->List AV):ah f []=[]:=(rfl)
theorem aL {α:Type} (f:α->List AV) (x:α) (l:List α):ah f (x::l)=f x++ah f l:=(rfl)
theorem aZ {α:Type} (f:α->List AV) (l m:List α):ah f (l++m)=ah f l++ah f m:=by
 simp only[ah,List.flatMap_append]
class pL {α:Type} (f:α->List AV) (k:outParam Nat):Prop where
 len:∀x,(f x).length=k
theorem fQ {α:Type} {f:α->List AV} {k:Nat} [h:pL f k] (l:List α):(ah f l).length=l.length*k:=by
 induction l with
 |nil=>simp[ah]
 |cons x l ih=>rw[aL,List.length_append,h.len,ih,List.length_cons,Nat.succ_mul,Nat.add_comm]
theorem Co {α:Type} {f:α->List AV} {k:Nat} [h:pL f k] (l:List α) (j:Nat):(ah f l).drop (j*k)=ah f (l.drop j):=by
 induction l generalizing j with
 |nil=>simp[ah]
 | cons x l ih=>
   cases j with
   |zero=>simp
   | succ j=>
     rw[aL,List.drop_succ_cons,<-ih,Nat.succ_mul,Nat.add_comm,<-List.drop_drop,List.drop_append_of_le_length (by rw[h.len];exact Nat.le_refl _),<-h.len x,List.drop_length,List.nil_append]
theorem dN {α:Type} {f:α->List AV} {k:Nat} [h:pL f k] (pre suf:List α):(ah f (pre++suf)).drop (pre.length*k)=ah f suf:=by
 rw[Co,List.drop_left]
theorem mr {α:Type} {f:α->List AV} {k:Nat} [h:pL f k] (pre suf:List α) (rest:List AV):(ah f (pre++suf)++rest).drop (pre.length*k)=ah f suf++rest:=by
 rw[List.drop_append_of_le_length (by rw[fQ,List.length_append];exact Nat.mul_le_mul_right _ (Nat.le_add_right _ _)),dN]
theorem jI (j:Nat):((j+1:Nat):Int)=(j:Int)+1:=(rfl)
theorem Aw {α:Type} {p:Prop} [Decidable p] {a b:α} (h:p):(if p then a else b)=a:=if_pos h
theorem Ae {α:Type} {p:Prop} [Decidable p] {a b:α} (h:¬p):(if p then a else b)=b:=if_neg h
theorem eK (a b:List AV):hfL (a++b)=(hfL a&&hfL b):=by
 induction a with
 |nil=>simp[hfL]
 |cons x a ih=>simp only[List.cons_append,hfL,ih,Bool.and_assoc]
theorem bR {α:Type} {f:α->List AV} (h:∀x,hfL (f x)=true) (l:List α):hfL (ah f l)=true:=by
 induction l with
 |nil=>rfl
 |cons x l ih=>rw[aL,eK,h,ih];rfl
theorem ej (a b:List AV):aA (a++b)=(aA a&&aA b):=by
 induction a with
 |nil=>simp[aA]
 |cons x a ih=>simp only[List.cons_append,aA,ih,Bool.and_assoc]
theorem vZ {α:Type} {f:α->List AV} (h:∀x,aA (f x)=true) (l:List α):aA (ah f l)=true:=by
 induction l with
 |nil=>rfl
 |cons x l ih=>rw[aL,ej,h,ih];rfl
theorem vg (x:Int):IntKind.i64.wrap x=if 9223372036854775808<=x % 18446744073709551616 then x % 18446744073709551616-18446744073709551616 else x % 18446744073709551616:=by
 simp[IntKind.wrap,IntKind.bits,IntKind.signed]
theorem wrap_i64 {x:Int} (h1: -9223372036854775808<=x) (h2:x<9223372036854775808):IntKind.i64.wrap x=x:=by
 rw[vg]
 split<;>omega
theorem wrap_u64 {x:Int} (h1:0<=x) (h2:x<18446744073709551616):IntKind.u64.wrap x=x:=by
 simp only[IntKind.wrap,IntKind.bits,IntKind.signed,Bool.false_and,Bool.false_eq_true,if_false];omega
section bin
variable {k:IntKind} {a b:Int} {ek:EqK} {xo yo:X}
theorem bv_add:bE .add ek xo yo (.int k a) (.int k b)=some (.int k (k.wrap (a+b))):=by simp[bE,dB]
theorem Fx:bE .sub ek xo yo (.int k a) (.int k b)=some (.int k (k.wrap (a-b))):=by simp[bE,dB]
theorem Ed:bE .mul ek xo yo (.int k a) (.int k b)=some (.int k (k.wrap (a*b))):=by simp[bE,dB]
theorem Dr (h:b≠0):bE .quo ek xo yo (.int k a) (.int k b)=some (.int k (k.wrap (a.tdiv b))):=by simp[bE,dB,h]
theorem Dl (h:b≠0):bE .rem ek xo yo (.int k a) (.int k b)=some (.int k (a.tmod b)):=by simp[bE,dB,h]
theorem Ea:bE .eql ek xo yo (.int k a) (.int k b)=some (.bool (decide (a=b))):=by
 simp only[bE,dB,if_true]
 by_cases h:a=b<;>simp[h]
theorem Gg:bE .neq ek xo yo (.int k a) (.int k b)=some (.bool (decide (¬a=b))):=by
 simp only[bE,dB,if_true]
 by_cases h:a=b<;>simp[h]
theorem DM:bE .lss ek xo yo (.int k a) (.int k b)=some (.bool (decide (a<b))):=by simp[bE,dB]
theorem DS:bE .leq ek xo yo (.int k a) (.int k b)=some (.bool (decide (a<=b))):=by simp[bE,dB]
theorem D7:bE .gtr ek xo yo (.int k a) (.int k b)=some (.bool (decide (b<a))):=by simp[bE,dB]
theorem C8:bE .geq ek xo yo (.int k a) (.int k b)=some (.bool (decide (b<=a))):=by simp[bE,dB]
theorem I4 {ks:List Nat} {xs ys:List AV} {b:Bool} (h:aW ks xs ys=some b):bE .eql (.struct ks) xo yo (.agg xs) (.agg ys)=some (.bool b):=by
 simp only[bE,eqV,h,Option.map_some]
theorem Io {ks:List Nat} {xs ys:List AV} {b:Bool} (h:aW ks xs ys=some b):bE .neq (.struct ks) xo yo (.agg xs) (.agg ys)=some (.bool !b):=by
 simp only[bE,eqV,h,Option.map_some]
theorem EW {ks:List Nat} {xs ys:List AV} {p:Prop} [Decidable p] (h:aW ks xs ys=some (decide p)):bE .neq (.struct ks) xo yo (.agg xs) (.agg ys)=some (.bool (decide (¬p))):=by
 rw[Io h,decide_not]
theorem Ay {p q:Bool}:bE .eql .bool xo yo (.bool p) (.bool q)=some (.bool (p==q)):=(rfl)
theorem zy {p q:Bool}:bE .neq .bool xo yo (.bool p) (.bool q)=some (.bool (!(p==q))):=(rfl)
theorem DX {p:Bool}:unV .not (.bool p)=some (.bool !p):=(rfl)
theorem o7 {p:Prop} [Decidable p]:unV .not (.bool (decide p))=some (.bool (decide (¬p))):=by
 by_cases h:p<;>simp[unV,h]
theorem Hk:unV .neg (.int k a)=some (.int k (k.wrap (0-a))):=(rfl)
end bin
theorem o8 {k k':IntKind} {a b c d:Int}:aW [0,0] [.int k a,.int k' b] [.int k c,.int k' d]=some (decide (a=c/\b=d)):=by
 have e1:∀x y:Int,(x==y)=decide (x=y):=fun x y=>by by_cases h:x=y<;>simp[h]
 simp only[aW,bk,if_true,e1]
 by_cases h1:a=c<;>by_cases h2:b=d<;>simp only[h1,h2,decide_true,decide_false,and_self,and_true,true_and,false_and,and_false]
theorem rL {xo yo:X} {k k':IntKind} {a b c d:Int}:bE .eql (.struct [0,0]) xo yo (.agg [.int k a,.int k' b]) (.agg [.int k c,.int k' d])=some (.bool (decide (a=c/\b=d))):=I4 o8
theorem oJ {xo yo:X} {k k':IntKind} {a b c d:Int}:bE .neq (.struct [0,0]) xo yo (.agg [.int k a,.int k' b]) (.agg [.int k c,.int k' d])=some (.bool (decide (¬(a=c/\b=d)))):=EW o8
theorem dc (sz n:Nat) (cs:List AV) (tk:Tk):∃tk',aC (.sl sz n cs tk)= .sl sz n cs tk'/\tk'.hf=true:=by
 cases tk<;>exact⟨_,rfl,rfl⟩
theorem iG (sz n:Nat) (cs:List AV) (tk:Tk):(aC (.sl sz n cs tk)).hf=hfL cs:=by
 cases tk<;>simp[aC,au,AV.hf,Tk.hf]
theorem gN (k:IntKind) (n:Int):(aC (.int k n)).hf=true:=(rfl)
theorem gf (b:Bool):(aC (.bool b)).hf=true:=(rfl)
theorem gS (b:ByteArray):(aC (.str b)).hf=true:=(rfl)
theorem xR (k:IntKind) (n:Int):AV.flat (.int k n)=[.int k n]:=(rfl)
theorem Bl (k:IntKind) (n:Int):AV.one (.int k n)=true:=(rfl)
theorem rT (b:Bool):AV.flat (.bool b)=[.bool b]:=(rfl)
theorem vr (b:Bool):AV.one (.bool b)=true:=(rfl)
theorem xi (s:ByteArray):AV.flat (.str s)=[.str s]:=(rfl)
theorem zA (s:ByteArray):AV.one (.str s)=true:=(rfl)
theorem An (sz n:Nat) (cs:List AV) (tk:Tk):AV.flat (.sl sz n cs tk)=[.sl sz n cs tk]:=(rfl)
theorem Gl (sz n:Nat) (cs:List AV) (tk:Tk):AV.one (.sl sz n cs tk)=true:=(rfl)
theorem x9 (sz id off n:Nat):AV.flat (.msl sz id off n)=[.msl sz id off n]:=(rfl)
theorem Av (sz id off n:Nat):AV.one (.msl sz id off n)=true:=(rfl)
theorem vz (id off:Nat):AV.flat (.ptr id off)=[.ptr id off]:=(rfl)
theorem Bb (id off:Nat):AV.one (.ptr id off)=true:=(rfl)
theorem rN:AV.flat (.cL)=[.cL]:=(rfl)
theorem vf:AV.one (.cL)=true:=(rfl)
theorem tv (cs:List AV):AV.flat (.bU cs)=[.bU cs]:=(rfl)
theorem vD (cs:List AV):AV.one (.bU cs)=true:=(rfl)
theorem vp (s i n:Nat):AV.flat (.rsl s i n)=[.rsl s i n]:=(rfl)
theorem AX (s i n:Nat):AV.one (.rsl s i n)=true:=(rfl)
theorem vI (f:FuncId) (cs:List AV):AV.flat (.bnd f cs)=[.bnd f cs]:=(rfl)
theorem A0 (f:FuncId) (cs:List AV):AV.one (.bnd f cs)=true:=(rfl)
theorem zE (f:FuncId) (cs:List AV):AV.flat (.fn f cs)=[.fn f cs]:=(rfl)
theorem F4 (f:FuncId) (cs:List AV):AV.one (.fn f cs)=true:=(rfl)
theorem tj:AV.flat (.cO)=[.cO]:=(rfl)
theorem xk:AV.one (.cO)=true:=(rfl)
theorem pq (t:TypeId) (v:AV):AV.flat (.iface t v)=[.iface t v]:=(rfl)
theorem sA (t:TypeId) (v:AV):AV.one (.iface t v)=true:=(rfl)
theorem r9:AV.flat (.fI)=[.fI]:=(rfl)
theorem ye:AV.one (.fI)=true:=(rfl)
theorem zM (id:Nat):AV.flat (.mp id)=[.mp id]:=(rfl)
theorem Gs (id:Nat):AV.one (.mp id)=true:=(rfl)
theorem rH:AV.flat (.fj)=[.fj]:=(rfl)
theorem vM:AV.one (.fj)=true:=(rfl)
theorem flat_agg (cs:List AV):AV.flat (.agg cs)=cs:=(rfl)
theorem oF (sz n:Nat) (cs:List AV):aC (.sl sz n cs .ro)= .sl sz n cs .ro:=(rfl)
theorem aE (k:IntKind) (n:Int):aC (.int k n)= .int k n:=(rfl)
theorem nc (b:Bool):aC (.bool b)= .bool b:=(rfl)
theorem cj (b:ByteArray):aC (.str b)= .str b:=(rfl)
def jq:AV->Option Nat
 | .sl _ _ _ (.own g)=>some g
 |_=>none
def Own (H:ab) (sz:Nat) (v:AV) (n:Nat) (cs:List AV):Prop:=
 ((v= .sl 0 n cs .z∨v= .sl sz n cs .e)/\n=0/\cs=[])∨(n≠0/\∃g,v= .sl sz n cs (.own g)/\H[g]? =some (.tok sz))
def Kept (g:Option Nat) (H H':ab):Prop:=∀id o,H[id]? =some o->g≠some id->H'[id]? =some o
theorem Kept.cells {g:Option Nat} {H H':ab} (h:Kept g H H') {sz:Nat} {v:AV} {n:Nat} {cs:List AV} (ho:Own H sz v n cs) (hg:g=jq v) {id:Nat} {o:av} (hc:H[id]? =some o) (hn:∀s,o≠ .tok s):H'[id]? =some o:=by
 refine h id o hc ?_;subst hg
 rcases ho with⟨rfl|rfl,_,_⟩|⟨_,g,rfl,hg⟩
 . simp[jq]
 . simp[jq]
 . simp only[jq,ne_eq,Option.some.injEq]
   rintro rfl
   rw[hg]at hc;cases hc;exact hn _ rfl
theorem Own.kept {H H':ab} {sz:Nat} {v:AV} {n:Nat} {cs:List AV} (ho:Own H sz v n cs) {g:Option Nat} (h:Kept g H H') (hg:g=none∨g≠jq v):Own H' sz v n cs:=by
 rcases ho with h1|⟨h0,g',rfl,hg'⟩
 . exact .inl h1
 . refine .inr ⟨h0,g',rfl,h g' _ hg' ?_⟩
   rcases hg with hg|hg
   . rw[hg];simp
   . exact hg
theorem Own.Ld {H:ab} {sz:Nat} {v:AV} {n:Nat} {cs:List AV} (ho:Own H sz v n cs) {i:Nat} {o:av} (h:H[i]? =some o) (hn:∀s,o≠ .tok s):some i=none∨some i≠jq v:=by
 right
 rcases ho with⟨rfl|rfl,_,_⟩|⟨_,g,rfl,hg⟩
 . simp[jq]
 . simp[jq]
 . simp only[jq,ne_eq,Option.some.injEq]
   rintro rfl
   rw[hg]at h;cases h;exact hn _ rfl
theorem Own.set {H:ab} {sz:Nat} {v:AV} {n:Nat} {cs:List AV} (ho:Own H sz v n cs) {i:Nat} {o q:av} (h:H[i]? =some o) (hn:∀s,o≠ .tok s):Own (H.set i q) sz v n cs:=
 ho.kept (g:=some i) (fun j r hr hj=>by rw[List.getElem?_set_ne (by simpa using hj)];exact hr) (ho.Ld h hn)
section
variable {cb:CB} {rd:Option Nat} {n:Nat} {Q:KP} {ks:List Kt} {E:Env} {df:List ADf} {H:ab}
theorem cm {sz bytes:Nat} {x:AV} {m:Nat} {ds:List AV} {tk:Tk} {n0:Nat} {cs:List AV} {d:Option Nat} {rest:List ai} (ho:Own H sz x n0 cs) (hz:0<sz) (hb:(n0+m)*bytes<=70368744177664) (hb2:n0+m<=70368744177664)
   (hm:m≠0) (hl:ds.length=m*sz) (h1:aA ds=true)
   (k:∀H',Own H' sz (.sl sz (n0+m) (cs++ds) (.own H.length)) (n0+m) (cs++ds)->Kept (jq x) H H'->H.length<H'.length->RR cb rd n Q rest ks (cH E d (.sl sz (n0+m) (cs++ds) (.own H.length))) df H'):
   eI (eW sz bytes x (.sl sz m ds tk) H) d rest cb rd n Q ks E df:=by
 have ht:ds.take (m*sz)=ds:=List.take_of_length_le (by omega)
 rcases ho with⟨hx,rfl,rfl⟩|⟨_,g,rfl,hg⟩
 . have hb3:m*bytes<=70368744177664:=by simpa using hb
   have hb4:m<=70368744177664:=by omega
   have key:eW sz bytes x (.sl sz m ds tk) H=some (.val (.sl sz m ds (.own H.length)),H++[.tok sz]):=by
     rcases hx with rfl|rfl<;>simp only[eW,ht,hl,hm,hz,hb,hb2,h1,if_true,if_false,true_and,and_true,Nat.le_refl,List.length_nil,Nat.zero_mul,Nat.zero_add,List.nil_append,hb3,hb4,and_self]
   rw[key,mc];have k:=k (H++[.tok sz]);simp only[Nat.zero_add,List.nil_append]at k;refine k (.inr ⟨by omega,H.length,rfl,by simp⟩) ?_ (by simp);intro id o ho _;rw[List.getElem?_append_left (List.getElem?_eq_some_iff.1 ho).1];exact ho
 . have key:eW sz bytes (.sl sz n0 cs (.own g)) (.sl sz m ds tk) H=some (.val (.sl sz (n0+m) (cs++ds) (.own H.length)),H.set g .dead++[.tok sz]):=by
     simp only[eW,ht,hl,hm,hz,hb,hb2,h1,hg,if_true,if_false,true_and,and_true,and_self,Nat.le_refl]
   rw[key,mc];refine k _ (.inr ⟨by omega,H.length,rfl,by simp⟩) ?_ (by simp);intro id o ho hne;rw[List.getElem?_append_left (by rw[List.length_set];exact(List.getElem?_eq_some_iff.1 ho).1),List.getElem?_set_ne (by simpa[jq] using hne)];exact ho
end
def v5 {α:Type} (sz:Nat) (f:α->List AV) (l:List α):PR:=if l.isEmpty then .plain (.sl 0 l.length (ah f l) .z)else .fresh sz l.length (ah f l)
section
variable {cb:CB} {rd:Option Nat} {n:Nat} {Q:KP} {ks:List Kt} {E:Env} {df:List ADf} {H:ab}
end
def fB {α:Type} (sz:Nat) (f:α->List AV) (l:List α):AV:=if l.isEmpty then .sl 0 l.length (ah f l) .z else .sl sz l.length (ah f l) .ro
theorem mP {α:Type} (sz:Nat) (f:α->List AV) (l:List α):∃s tk,fB sz f l= .sl s l.length (ah f l) tk/\(l≠[]->s=sz)/\tk.hf=true:=by
 cases l with
 |nil=>exact⟨0,.z,rfl,fun h=>absurd rfl h,rfl⟩
 |cons x r=>exact⟨sz,.ro,rfl,fun _=>rfl,rfl⟩
theorem Bm {α:Type} {sz:Nat} {f:α->List AV} {l:List α} {H:ab} {v:AV} (h:Own H sz v l.length (ah f l)) (hne:∀s n c,v≠ .sl s n c .e):au v=fB sz f l:=by
 rcases h with⟨h0,h1,h2⟩|⟨h0,g,rfl,hg⟩
 . have:l=[]:=List.length_eq_zero_iff.1 h1;subst this
   rcases h0 with rfl|rfl
   . rfl
   . exact absurd rfl (hne _ _ _)
 . have:l.isEmpty=false:=by cases l<;>simp at h0 ⊢
   simp[au,fB,this]
theorem Ev {sz n:Nat} {H:ab} {v:AV} {cs:List AV} (h:Own H sz v n cs):∃s m c tk,v= .sl s m c tk:=by
 rcases h with⟨h0,_,_⟩|⟨_,g,rfl,_⟩
 . rcases h0 with rfl|rfl
   . exact⟨_,_,_,_,rfl⟩
   . exact⟨_,_,_,_,rfl⟩
 . exact⟨_,_,_,_,rfl⟩
theorem vV {α:Type} {sz:Nat} {f:α->List AV} (l:List α):(fB sz f l).one=true:=by
 unfold fB
 split<;>rfl
theorem rU {α:Type} {sz:Nat} {f:α->List AV} (l:List α):(fB sz f l).flat=[fB sz f l]:=by
 unfold fB
 split<;>rfl
theorem iD {α:Type} {sz:Nat} {f:α->List AV} {l:List α} {H:ab} {v:AV} (hf:∀x,hfL (f x)=true) (h:Own H sz v l.length (ah f l)) (hne:l=[]->∀s n c,v≠ .sl s n c .e):aB (some (.ret v,H))=some (v5 sz f l):=by
 rcases h with⟨h0,h1,h2⟩|⟨h0,g,rfl,hg⟩
 . have:l=[]:=List.length_eq_zero_iff.1 h1;subst this
   rcases h0 with rfl|rfl
   . rfl
   . exact absurd rfl (hne rfl _ _ _)
 . have:l.isEmpty=false:=by cases l<;>simp at h0 ⊢
   simp only[aB,hg,v5,this,bR hf,decide_true,beq_self_eq_true,Bool.and_self,Bool.true_and,if_true,Bool.false_eq_true,if_false]
end Go.Am
