/- PLAIN LEMMAS FOR WALKS: rows of equal records as cells, integers that fit, what an operation on them comes to. No condition. -/
import Derived.Test.YtephfpdnhdpmkaaGreatDoorAmWp
open Int (reduceEq)
open Nat (reduceEqDiff reduceAdd reduceMul reduceLT reduceLeDiff)
set_option linter.all false
namespace Go.Am
open Go
def ah {α:Type} (f:α->List AV) (l:List α):List AV:=l.flatMap f
theorem yt {α:Type} (f:α->List AV):ah f []=[]:=(rfl)
theorem aK {α:Type} (f:α->List AV) (x:α) (l:List α):ah f (x::l)=f x++ah f l:=(rfl)
theorem aO {α:Type} (f:α->List AV) (l m:List α):ah f (l++m)=ah f l++ah f m:=by
 simp only[ah,List.flatMap_append]
class rI {α:Type} (f:α->List AV) (k:outParam Nat):Prop where
 len:∀x,(f x).length=k
theorem dZ {α:Type} {f:α->List AV} {k:Nat} [h:rI f k] (l:List α):(ah f l).length=l.length*k:=by
 induction l with
 |nil=>simp[ah]
 |cons x l ih=>rw[aK,List.length_append,h.len,ih,List.length_cons,Nat.succ_mul,Nat.add_comm]
theorem CJ {α:Type} {f:α->List AV} {k:Nat} [h:rI f k] (l:List α) (j:Nat):(ah f l).drop (j*k)=ah f (l.drop j):=by
 induction l generalizing j with
 |nil=>simp[ah]
 | cons x l ih=>
   cases j with
   |zero=>simp
   | succ j=>
     rw[aK,List.drop_succ_cons,<-ih,Nat.succ_mul,Nat.add_comm,<-List.drop_drop,List.drop_append_of_le_length (by rw[h.len];exact Nat.le_refl _),<-h.len x,List.drop_length,List.nil_append]
theorem eE {α:Type} {f:α->List AV} {k:Nat} [h:rI f k] (pre suf:List α):(ah f (pre++suf)).drop (pre.length*k)=ah f suf:=by
 rw[CJ,List.drop_left]
theorem nL {α:Type} {f:α->List AV} {k:Nat} [h:rI f k] (pre suf:List α) (rest:List AV):(ah f (pre++suf)++rest).drop (pre.length*k)=ah f suf++rest:=by
 rw[List.drop_append_of_le_length (by rw[dZ,List.length_append];exact Nat.mul_le_mul_right _ (Nat.le_add_right _ _)),eE]
theorem kr (j:Nat):((j+1:Nat):Int)=(j:Int)+1:=(rfl)
theorem Bu {α:Type} {p:Prop} [Decidable p] {a b:α} (h:p):(if p then a else b)=a:=if_pos h
theorem AJ {α:Type} {p:Prop} [Decidable p] {a b:α} (h:¬p):(if p then a else b)=b:=if_neg h
theorem fL (a b:List AV):hfL (a++b)=(hfL a&&hfL b):=by
 induction a with
 |nil=>simp[hfL]
 |cons x a ih=>simp only[List.cons_append,hfL,ih,Bool.and_assoc]
theorem bz {α:Type} {f:α->List AV} (h:∀x,hfL (f x)=true) (l:List α):hfL (ah f l)=true:=by
 induction l with
 |nil=>rfl
 |cons x l ih=>rw[aK,fL,h,ih];rfl
theorem cU (a b:List AV):aw (a++b)=(aw a&&aw b):=by
 induction a with
 |nil=>simp[aw]
 |cons x a ih=>simp only[List.cons_append,aw,ih,Bool.and_assoc]
theorem ye {α:Type} {f:α->List AV} (h:∀x,aw (f x)=true) (l:List α):aw (ah f l)=true:=by
 induction l with
 |nil=>rfl
 |cons x l ih=>rw[aK,cU,h,ih];rfl
theorem yF (x:Int):IntKind.i64.wrap x=if 9223372036854775808<=x % 18446744073709551616 then x % 18446744073709551616-18446744073709551616 else x % 18446744073709551616:=by
 simp[IntKind.wrap,IntKind.bits,IntKind.signed]
theorem wrap_i64 {x:Int} (h1: -9223372036854775808<=x) (h2:x<9223372036854775808):IntKind.i64.wrap x=x:=by
 rw[yF]
 split<;>omega
theorem wrap_u64 {x:Int} (h1:0<=x) (h2:x<18446744073709551616):IntKind.u64.wrap x=x:=by
 simp only[IntKind.wrap,IntKind.bits,IntKind.signed,Bool.false_and,Bool.false_eq_true,if_false];omega
section bin
variable {k:IntKind} {a b:Int} {ek:EqK} {xo yo:X}
theorem bv_add:bC .add ek xo yo (.int k a) (.int k b)=some (.int k (k.wrap (a+b))):=by simp[bC,dK]
theorem D1:bC .sub ek xo yo (.int k a) (.int k b)=some (.int k (k.wrap (a-b))):=by simp[bC,dK]
theorem Eo:bC .mul ek xo yo (.int k a) (.int k b)=some (.int k (k.wrap (a*b))):=by simp[bC,dK]
theorem EU (h:b≠0):bC .quo ek xo yo (.int k a) (.int k b)=some (.int k (k.wrap (a.tdiv b))):=by simp[bC,dK,h]
theorem DE (h:b≠0):bC .rem ek xo yo (.int k a) (.int k b)=some (.int k (a.tmod b)):=by simp[bC,dK,h]
theorem Fl:bC .eql ek xo yo (.int k a) (.int k b)=some (.bool (decide (a=b))):=by
 simp only[bC,dK,if_true]
 by_cases h:a=b<;>simp[h]
theorem Im:bC .neq ek xo yo (.int k a) (.int k b)=some (.bool (decide (¬a=b))):=by
 simp only[bC,dK,if_true]
 by_cases h:a=b<;>simp[h]
theorem Gl:bC .lss ek xo yo (.int k a) (.int k b)=some (.bool (decide (a<b))):=by simp[bC,dK]
theorem Gi:bC .leq ek xo yo (.int k a) (.int k b)=some (.bool (decide (a<=b))):=by simp[bC,dK]
theorem DH:bC .gtr ek xo yo (.int k a) (.int k b)=some (.bool (decide (b<a))):=by simp[bC,dK]
theorem F8:bC .geq ek xo yo (.int k a) (.int k b)=some (.bool (decide (b<=a))):=by simp[bC,dK]
theorem IP {ks:List Nat} {xs ys:List AV} {b:Bool} (h:aX ks xs ys=some b):bC .eql (.struct ks) xo yo (.agg xs) (.agg ys)=some (.bool b):=by
 simp only[bC,eqV,h,Option.map_some]
theorem J5 {ks:List Nat} {xs ys:List AV} {b:Bool} (h:aX ks xs ys=some b):bC .neq (.struct ks) xo yo (.agg xs) (.agg ys)=some (.bool !b):=by
 simp only[bC,eqV,h,Option.map_some]
theorem Hj {ks:List Nat} {xs ys:List AV} {p:Prop} [Decidable p] (h:aX ks xs ys=some (decide p)):bC .neq (.struct ks) xo yo (.agg xs) (.agg ys)=some (.bool (decide (¬p))):=by
 rw[J5 h,decide_not]
theorem Bj {p q:Bool}:bC .eql .bool xo yo (.bool p) (.bool q)=some (.bool (p==q)):=(rfl)
theorem AF {p q:Bool}:bC .neq .bool xo yo (.bool p) (.bool q)=some (.bool (!(p==q))):=(rfl)
theorem DS {p:Bool}:unV .not (.bool p)=some (.bool !p):=(rfl)
theorem qS {p:Prop} [Decidable p]:unV .not (.bool (decide p))=some (.bool (decide (¬p))):=by
 by_cases h:p<;>simp[unV,h]
theorem Em:unV .neg (.int k a)=some (.int k (k.wrap (0-a))):=(rfl)
end bin
theorem p7 {k k':IntKind} {a b c d:Int}:aX [0,0] [.int k a,.int k' b] [.int k c,.int k' d]=some (decide (a=c/\b=d)):=by
 have e1:∀x y:Int,(x==y)=decide (x=y):=fun x y=>by by_cases h:x=y<;>simp[h]
 simp only[aX,bk,if_true,e1]
 by_cases h1:a=c<;>by_cases h2:b=d<;>simp only[h1,h2,decide_true,decide_false,and_self,and_true,true_and,false_and,and_false]
theorem tI {xo yo:X} {k k':IntKind} {a b c d:Int}:bC .eql (.struct [0,0]) xo yo (.agg [.int k a,.int k' b]) (.agg [.int k c,.int k' d])=some (.bool (decide (a=c/\b=d))):=IP p7
theorem qQ {xo yo:X} {k k':IntKind} {a b c d:Int}:bC .neq (.struct [0,0]) xo yo (.agg [.int k a,.int k' b]) (.agg [.int k c,.int k' d])=some (.bool (decide (¬(a=c/\b=d)))):=Hj p7
theorem jb (sz n:Nat) (cs:List AV) (tk:Tk):∃tk',aE (.sl sz n cs tk)= .sl sz n cs tk'/\tk'.hf=true:=by
 cases tk<;>exact⟨_,rfl,rfl⟩
theorem ji (sz n:Nat) (cs:List AV) (tk:Tk):(aE (.sl sz n cs tk)).hf=hfL cs:=by
 cases tk<;>simp[aE,au,AV.hf,Tk.hf]
theorem hO (k:IntKind) (n:Int):(aE (.int k n)).hf=true:=(rfl)
theorem gz (b:Bool):(aE (.bool b)).hf=true:=(rfl)
theorem hM (b:ByteArray):(aE (.str b)).hf=true:=(rfl)
theorem wG (k:IntKind) (n:Int):AV.flat (.int k n)=[.int k n]:=(rfl)
theorem vg (k:IntKind) (n:Int):AV.one (.int k n)=true:=(rfl)
theorem tu (b:Bool):AV.flat (.bool b)=[.bool b]:=(rfl)
theorem x9 (b:Bool):AV.one (.bool b)=true:=(rfl)
theorem wz (s:ByteArray):AV.flat (.str s)=[.str s]:=(rfl)
theorem AN (s:ByteArray):AV.one (.str s)=true:=(rfl)
theorem Au (sz n:Nat) (cs:List AV) (tk:Tk):AV.flat (.sl sz n cs tk)=[.sl sz n cs tk]:=(rfl)
theorem zl (sz n:Nat) (cs:List AV) (tk:Tk):AV.one (.sl sz n cs tk)=true:=(rfl)
theorem xW (sz id off n:Nat):AV.flat (.msl sz id off n)=[.msl sz id off n]:=(rfl)
theorem BC (sz id off n:Nat):AV.one (.msl sz id off n)=true:=(rfl)
theorem yf (id off:Nat):AV.flat (.ptr id off)=[.ptr id off]:=(rfl)
theorem A8 (id off:Nat):AV.one (.ptr id off)=true:=(rfl)
theorem sY:AV.flat (.db)=[.db]:=(rfl)
theorem xN:AV.one (.db)=true:=(rfl)
theorem sg (cs:List AV):AV.flat (.bX cs)=[.bX cs]:=(rfl)
theorem wF (cs:List AV):AV.one (.bX cs)=true:=(rfl)
theorem vu (s i n:Nat):AV.flat (.rsl s i n)=[.rsl s i n]:=(rfl)
theorem Ak (s i n:Nat):AV.one (.rsl s i n)=true:=(rfl)
theorem xw (f:FuncId) (cs:List AV):AV.flat (.bnd f cs)=[.bnd f cs]:=(rfl)
theorem AB (f:FuncId) (cs:List AV):AV.one (.bnd f cs)=true:=(rfl)
theorem Bb (f:FuncId) (cs:List AV):AV.flat (.fn f cs)=[.fn f cs]:=(rfl)
theorem Ie (f:FuncId) (cs:List AV):AV.one (.fn f cs)=true:=(rfl)
theorem ug:AV.flat (.da)=[.da]:=(rfl)
theorem wX:AV.one (.da)=true:=(rfl)
theorem qh (t:TypeId) (v:AV):AV.flat (.iface t v)=[.iface t v]:=(rfl)
theorem sy (t:TypeId) (v:AV):AV.one (.iface t v)=true:=(rfl)
theorem sA:AV.flat (.fJ)=[.fJ]:=(rfl)
theorem wU:AV.one (.fJ)=true:=(rfl)
theorem A6 (id:Nat):AV.flat (.mp id)=[.mp id]:=(rfl)
theorem F2 (id:Nat):AV.one (.mp id)=true:=(rfl)
theorem tJ:AV.flat (.fB)=[.fB]:=(rfl)
theorem xI:AV.one (.fB)=true:=(rfl)
theorem flat_agg (cs:List AV):AV.flat (.agg cs)=cs:=(rfl)
theorem pf (sz n:Nat) (cs:List AV):aE (.sl sz n cs .ro)= .sl sz n cs .ro:=(rfl)
theorem aC (k:IntKind) (n:Int):aE (.int k n)= .int k n:=(rfl)
theorem oc (b:Bool):aE (.bool b)= .bool b:=(rfl)
theorem cq (b:ByteArray):aE (.str b)= .str b:=(rfl)
def jo:AV->Option Nat
 | .sl _ _ _ (.own g)=>some g
 |_=>none
def Own (H:ab) (sz:Nat) (v:AV) (n:Nat) (cs:List AV):Prop:=
 ((v= .sl 0 n cs .z∨v= .sl sz n cs .e)/\n=0/\cs=[])∨(n≠0/\∃g,v= .sl sz n cs (.own g)/\H[g]? =some (.tok sz))
def Kept (g:Option Nat) (H H':ab):Prop:=∀id o,H[id]? =some o->g≠some id->H'[id]? =some o
theorem Kept.cells {g:Option Nat} {H H':ab} (h:Kept g H H') {sz:Nat} {v:AV} {n:Nat} {cs:List AV} (ho:Own H sz v n cs) (hg:g=jo v) {id:Nat} {o:aj} (hc:H[id]? =some o) (hn:∀s,o≠ .tok s):H'[id]? =some o:=by
 refine h id o hc ?_;subst hg
 rcases ho with⟨rfl|rfl,_,_⟩|⟨_,g,rfl,hg⟩
 . simp[jo]
 . simp[jo]
 . simp only[jo,ne_eq,Option.some.injEq]
   rintro rfl
   rw[hg]at hc;cases hc;exact hn _ rfl
theorem Own.kept {H H':ab} {sz:Nat} {v:AV} {n:Nat} {cs:List AV} (ho:Own H sz v n cs) {g:Option Nat} (h:Kept g H H') (hg:g=none∨g≠jo v):Own H' sz v n cs:=by
 rcases ho with h1|⟨h0,g',rfl,hg'⟩
 . exact .inl h1
 . refine .inr ⟨h0,g',rfl,h g' _ hg' ?_⟩
   rcases hg with hg|hg
   . rw[hg];simp
   . exact hg
theorem Own.MX {H:ab} {sz:Nat} {v:AV} {n:Nat} {cs:List AV} (ho:Own H sz v n cs) {i:Nat} {o:aj} (h:H[i]? =some o) (hn:∀s,o≠ .tok s):some i=none∨some i≠jo v:=by
 right
 rcases ho with⟨rfl|rfl,_,_⟩|⟨_,g,rfl,hg⟩
 . simp[jo]
 . simp[jo]
 . simp only[jo,ne_eq,Option.some.injEq]
   rintro rfl
   rw[hg]at h;cases h;exact hn _ rfl
theorem Own.set {H:ab} {sz:Nat} {v:AV} {n:Nat} {cs:List AV} (ho:Own H sz v n cs) {i:Nat} {o q:aj} (h:H[i]? =some o) (hn:∀s,o≠ .tok s):Own (H.set i q) sz v n cs:=
 ho.kept (g:=some i) (fun j r hr hj=>by rw[List.getElem?_set_ne (by simpa using hj)];exact hr) (ho.MX h hn)
section
variable {cb:CB} {rd:Option Nat} {n:Nat} {Q:KP} {ks:List Kt} {E:Env} {df:List ADf} {H:ab}
theorem bJ {sz bytes:Nat} {x:AV} {m:Nat} {ds:List AV} {tk:Tk} {n0:Nat} {cs:List AV} {d:Option Nat} {rest:List ai} (ho:Own H sz x n0 cs) (hz:0<sz) (hb:(n0+m)*bytes<=70368744177664) (hb2:n0+m<=70368744177664)
   (hm:m≠0) (hl:ds.length=m*sz) (h1:aw ds=true)
   (k:∀H',Own H' sz (.sl sz (n0+m) (cs++ds) (.own H.length)) (n0+m) (cs++ds)->Kept (jo x) H H'->H.length<H'.length->RR cb rd n Q rest ks (cM E d (.sl sz (n0+m) (cs++ds) (.own H.length))) df H'):
   eQ (fQ sz bytes x (.sl sz m ds tk) H) d rest cb rd n Q ks E df:=by
 have ht:ds.take (m*sz)=ds:=List.take_of_length_le (by omega)
 rcases ho with⟨hx,rfl,rfl⟩|⟨_,g,rfl,hg⟩
 . have hb3:m*bytes<=70368744177664:=by simpa using hb
   have hb4:m<=70368744177664:=by omega
   have key:fQ sz bytes x (.sl sz m ds tk) H=some (.val (.sl sz m ds (.own H.length)),H++[.tok sz]):=by
     rcases hx with rfl|rfl<;>simp only[fQ,ht,hl,hm,hz,hb,hb2,h1,if_true,if_false,true_and,and_true,Nat.le_refl,List.length_nil,Nat.zero_mul,Nat.zero_add,List.nil_append,hb3,hb4,and_self]
   rw[key,mF];have k:=k (H++[.tok sz]);simp only[Nat.zero_add,List.nil_append]at k;refine k (.inr ⟨by omega,H.length,rfl,by simp⟩) ?_ (by simp);intro id o ho _;rw[List.getElem?_append_left (List.getElem?_eq_some_iff.1 ho).1];exact ho
 . have key:fQ sz bytes (.sl sz n0 cs (.own g)) (.sl sz m ds tk) H=some (.val (.sl sz (n0+m) (cs++ds) (.own H.length)),H.set g .dead++[.tok sz]):=by
     simp only[fQ,ht,hl,hm,hz,hb,hb2,h1,hg,if_true,if_false,true_and,and_true,and_self,Nat.le_refl]
   rw[key,mF];refine k _ (.inr ⟨by omega,H.length,rfl,by simp⟩) ?_ (by simp);intro id o ho hne;rw[List.getElem?_append_left (by rw[List.length_set];exact(List.getElem?_eq_some_iff.1 ho).1),List.getElem?_set_ne (by simpa[jo] using hne)];exact ho
end
def oo {α:Type} (sz:Nat) (f:α->List AV) (l:List α):PR:=if l.isEmpty then .plain (.sl 0 l.length (ah f l) .z)else .fresh sz l.length (ah f l)
section
variable {cb:CB} {rd:Option Nat} {n:Nat} {Q:KP} {ks:List Kt} {E:Env} {df:List ADf} {H:ab}
theorem Ib {α:Type} {sz:Nat} {f:α->List AV} {l:List α} {fn:FuncId} {args:List AV} {d:Option Nat} {rest:List ai}
   (h:∀(s:Nat) (tk:Tk) (H':ab),(l≠[]->s=sz)->Own H' sz (.sl s l.length (ah f l) tk) l.length (ah f l)->tk≠ .e->(∀(i:Nat) (o:aj),H[i]? =some o->H'[i]? =some o)->H.length<=H'.length->RR cb rd n Q rest ks (cM E d (.sl s l.length (ah f l) tk)) df H'):
   xv (some (oo sz f l)) fn args H d rest cb rd n Q ks E df:=by
 unfold oo;split
 . rename_i he;have he:=List.isEmpty_iff.1 he;subst he;rw[kW];exact h 0 .z H (fun hn=>absurd rfl hn) (.inl ⟨.inl rfl,rfl,rfl⟩) (by intro e;cases e) (fun _ _ h=>h) (Nat.le_refl _)
 . rename_i he;rw[k7];refine h sz _ _ (fun _=>rfl) (.inr ⟨?_,H.length,rfl,by simp⟩) (by intro e;cases e) (fun i o hi=>by rw[List.getElem?_append_left (List.getElem?_eq_some_iff.1 hi).1];exact hi) (by simp);intro e;have:=List.length_eq_zero_iff.1 e;subst this;exact he rfl
end
def dW {α:Type} (sz:Nat) (f:α->List AV) (l:List α):AV:=if l.isEmpty then .sl 0 l.length (ah f l) .z else .sl sz l.length (ah f l) .ro
theorem gJ {α:Type} (sz:Nat) (f:α->List AV) (l:List α):∃s tk,dW sz f l= .sl s l.length (ah f l) tk/\(l≠[]->s=sz)/\tk.hf=true:=by
 cases l with
 |nil=>exact⟨0,.z,rfl,fun h=>absurd rfl h,rfl⟩
 |cons x r=>exact⟨sz,.ro,rfl,fun _=>rfl,rfl⟩
theorem BZ {α:Type} {sz:Nat} {f:α->List AV} {l:List α} {H:ab} {v:AV} (h:Own H sz v l.length (ah f l)) (hne:∀s n c,v≠ .sl s n c .e):au v=dW sz f l:=by
 rcases h with⟨h0,h1,h2⟩|⟨h0,g,rfl,hg⟩
 . have:l=[]:=List.length_eq_zero_iff.1 h1;subst this
   rcases h0 with rfl|rfl
   . rfl
   . exact absurd rfl (hne _ _ _)
 . have:l.isEmpty=false:=by cases l<;>simp at h0 ⊢
   simp[au,dW,this]
theorem Gc {sz n:Nat} {H:ab} {v:AV} {cs:List AV} (h:Own H sz v n cs):∃s m c tk,v= .sl s m c tk:=by
 rcases h with⟨h0,_,_⟩|⟨_,g,rfl,_⟩
 . rcases h0 with rfl|rfl
   . exact⟨_,_,_,_,rfl⟩
   . exact⟨_,_,_,_,rfl⟩
 . exact⟨_,_,_,_,rfl⟩
theorem vH {α:Type} {sz:Nat} {f:α->List AV} (l:List α):(dW sz f l).one=true:=by
 unfold dW
 split<;>rfl
theorem sR {α:Type} {sz:Nat} {f:α->List AV} (l:List α):(dW sz f l).flat=[dW sz f l]:=by
 unfold dW
 split<;>rfl
theorem fN {α:Type} {sz:Nat} {f:α->List AV} {l:List α} {H:ab} {v:AV} (hf:∀x,hfL (f x)=true) (h:Own H sz v l.length (ah f l)) (hne:l=[]->∀s n c,v≠ .sl s n c .e):aH (some (.ret v,H))=some (oo sz f l):=by
 rcases h with⟨h0,h1,h2⟩|⟨h0,g,rfl,hg⟩
 . have:l=[]:=List.length_eq_zero_iff.1 h1;subst this
   rcases h0 with rfl|rfl
   . rfl
   . exact absurd rfl (hne rfl _ _ _)
 . have:l.isEmpty=false:=by cases l<;>simp at h0 ⊢
   simp only[aH,hg,oo,this,bz hf,decide_true,beq_self_eq_true,Bool.and_self,Bool.true_and,if_true,Bool.false_eq_true,if_false]
end Go.Am
