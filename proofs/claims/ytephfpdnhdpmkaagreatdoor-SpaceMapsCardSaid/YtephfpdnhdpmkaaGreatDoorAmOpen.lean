/- ARGUMENTS THAT ARE READ AS DATA STAND FOR VALUES WITHOUT ADDRESSES; a call on these that comes to 'true' meets the law's row. No condition. -/
import Derived.Test.YtephfpdnhdpmkaaGreatDoorAmTop
import Derived.Test.YtephfpdnhdpmkaaGreatDoorAmLim
import Derived.WalkKit
import Derived.ProofKit
import Derived.OpenShut
import Derived.WideKeyArgs
import Derived.JoinedCond
open Int (reduceEq)
open Nat (reduceEqDiff reduceAdd reduceMul reduceLT reduceLeDiff)
set_option linter.all false
namespace Go.Am
open Go Go.RowKit Go.ChangeShapes Go.WideShapes Go.ChangeAt Go.WideElems
set_option linter.unusedSectionVars false
variable [dy]
inductive Sh where
 |int (k:IntKind)
 |bool
 |str
 |slice (e:List Sh)
def fieldsOf (g:TypeId->Option (List Sh)) (sz:TypeId->Nat):List Field->Nat->Option (List Sh)
 |[],_=>some []
 | f::r,off=>
   if f.offset=off then
     match g f.type with
     |some L=>if sz f.type=L.length then(fieldsOf g sz r (off+L.length)).map (L++ ·)else none
     |none=>none
   else none
def oi (P:Program):Nat->TypeId->Option (List Sh)
 |0,_=>none
 | n+1,t=>
   match P.underlying t with
   |some (.int k)=>some [.int k]
   |some .bool=>some [.bool]
   |some .string=>some [.str]
   | some (.slice e)=>
     match oi P n e with
     |some L=>if P.cellsOf e=L.length/\0<L.length then some [.slice L] else none
     |none=>none
   | some (.struct fs)=>
     match fieldsOf (oi P n) P.cellsOf fs.toList 0 with
     |some L=>if P.cellsOf t=L.length then some L else none
     |none=>none
   | some (.array k e)=>
     match oi P n e with
     |some L=>if P.cellsOf e=L.length/\P.cellsOf t=k*L.length/\1<k*L.length then some (List.replicate k L).flatten else none
     |none=>none
   |_=>none
theorem Fp {α:Type} (L:List α) (k:Nat):(List.replicate k L).flatten.length=k*L.length:=by
 rw[List.length_flatten,List.map_replicate,List.sum_replicate_nat]
inductive OkS:Sh->AV->Prop
 |int (k:IntKind) (n:Int) (h1:k.min<=n) (h2:n<=k.max):OkS (.int k) (.int k n)
 |bool (b:Bool):OkS .bool (.bool b)
 |str (s:ByteArray) (h:s.size<=9223372036854775807):OkS .str (.str s)
 |slnil (L:List Sh):OkS (.slice L) (.sl L.length 0 [] .z)
 |sl (L:List Sh) (rows:List (List AV)) (h:rows.length<=9223372036854775807) (hl:∀r∈rows,r.length=L.length)
     (hr:∀r∈rows,∀(i:Nat) (s:Sh) (v:AV),L[i]? =some s->r[i]? =some v->OkS s v):OkS (.slice L) (.sl L.length rows.length rows.flatten .ro)
def OkL (L:List Sh) (xs:List AV):Prop:=xs.length=L.length/\∀(i:Nat) (s:Sh) (v:AV),L[i]? =some s->xs[i]? =some v->OkS s v
theorem OkL.nil:OkL [] []:=⟨rfl,fun i s v h=>by simp at h⟩
theorem OkL.append {L M:List Sh} {xs ys:List AV} (h:OkL L xs) (k:OkL M ys):OkL (L++M) (xs++ys):=by
 refine⟨by simp[h.1,k.1],fun i s v hs hv=> ?_⟩;by_cases hi:i<L.length
 . rw[List.getElem?_append_left hi]at hs;rw[List.getElem?_append_left (by rw[h.1];exact hi)]at hv;exact h.2 i s v hs hv
 . rw[List.getElem?_append_right (by omega)]at hs;rw[List.getElem?_append_right (by rw[h.1];omega),h.1]at hv;exact k.2 _ s v hs hv
theorem OkL.one {s:Sh} {v:AV} (h:OkS s v):OkL [s] [v]:=⟨rfl,fun i t u ht hu=>by
 cases i with
 |zero=>simp at ht hu;subst ht hu;exact h
 |succ i=>simp at ht⟩
theorem l7 (a:Addr) (m n:Nat):(a.add m).add n=a.add (m+n):=by
 simp only[Addr.add]
 by_cases hm:m=0<;>by_cases hn:n=0<;>simp[hm,hn,Nat.add_assoc]
theorem lI {W:World} {a:Addr} {v:Value} (h:W.cell? a=some v):a.spot=none:=by
 unfold World.cell? at h;split at h
 . by_cases hs:a.spot.isSome=true
   . rw[if_pos hs]at h;cases h
   . simpa using hs
 . cases h
def seen (W:World):View:=⟨fun p=>match W.cell? p with
 |some v=>if v.oneCell'=true then some v else none
 |none=>none,fun _=>none⟩
theorem BE {W:World} {p:Addr} {v:Value} (h:W.cell? p=some v) (h1:v.oneCell'=true):(seen W).imm p=some v:=by
 simp only[seen,h,h1,if_true]
theorem Gw (W:World):∀p v,(seen W).imm p=some v->W.cell? p=some v/\v.oneCell'=true:=by
 intro p v h;simp only[seen]at h;split at h
 . split at h
   . cases h;exact⟨by assumption,by assumption⟩
   . cases h
 . cases h
def Got (W:World) (L:List Sh) (cs:List Value):Prop:=∃xs,OkL L xs/\aj (seen W) xs cs/\∀v∈cs,v.oneCell'=true
theorem Got.append {W:World} {L M:List Sh} {cs ds:List Value} (h:Got W L cs) (k:Got W M ds):Got W (L++M) (cs++ds):=by
 obtain⟨xs,h1,h2,h3⟩:=h;obtain⟨ys,k1,k2,k3⟩:=k;refine⟨xs++ys,h1.append k1,h2.append k2,fun v hv=> ?_⟩
 rcases List.mem_append.1 hv with hv|hv
 . exact h3 v hv
 . exact k3 v hv
section
variable {H:Type} {enc:TypeId×Value->H} {P:Program} {W:World} {base:Nat} {sp:Nat->Bool} {held:Bool}
theorem qw {m:Nat} {g:TypeId->Option (List Sh)} {cs:List Value}
   (hg:∀t L ds x,g t=some L->DataW.trod enc P W base sp held m t ds=some x->ds.length=L.length->Got W L ds):
   ∀ (fs:List Field) (off:Nat) (L:List Sh),fieldsOf g P.cellsOf fs off=some L->off+L.length=cs.length→
     (∀f∈fs,∃x,DataW.trod enc P W base sp held m f.type ((cs.drop f.offset).take (P.cellsOf f.type))=some x)->Got W L (cs.drop off)
 | [],off,L,h,hl,_=>by
   cases h;simp at hl;rw[List.drop_of_length_le (by omega)];exact⟨[],OkL.nil,aj.nil _,fun v hv=>by simp at hv⟩
 | f::r,off,L,h,hl,hx=>by
   rw[fieldsOf]at h;split at h
   case isFalse=>cases h
   rename_i ho;subst ho;split at h
   case h_2=>cases h
   rename_i L1 hL1;split at h
   case isFalse=>cases h
   rename_i hsz
   cases h2:fieldsOf g P.cellsOf r (f.offset+L1.length)with
   |none=>rw[h2]at h;cases h
   | some L2=>
     rw[h2]at h;cases h;simp only[List.length_append]at hl;obtain⟨x,hx1⟩:=hx f (List.mem_cons_self ..);have k1:=hg _ _ _ _ hL1 hx1 (by rw[List.length_take,List.length_drop,hsz];omega);have k2:=qw hg r _ L2 h2 (by omega) (fun f' hf'=>hx f' (List.mem_cons_of_mem _ hf'));have:=k1.append k2;rw[hsz,<-List.drop_drop,List.take_append_drop]at this;exact this
theorem got:∀(n m:Nat) (t:TypeId) (L:List Sh) (cs:List Value) (x:DataW H×List MemPlace),oi P n t=some L->DataW.trod enc P W base (fun _=>true) held m t cs=some x->cs.length=L.length->Got W L cs
 |0,_,_,_,_,_,h,_,_=>by cases h
 | n+1,m,t,L,cs,x,h,hx,hl=>by
   rw[oi]at h;split at h
   . rename_i k hu;cases h;obtain⟨i,rfl,_,hw⟩:=DataW.trod_int hu hx
     have hw:k.min<=i/\i<=k.max:=by simpa[Lit.wf] using hw
     exact⟨[.int k i],.one (.int k i hw.1 hw.2),aj.cons (.int k i) (aj.nil _),fun v hv=>by simp at hv;subst hv;rfl⟩
   . rename_i hu;cases h;obtain⟨b,rfl,_⟩:=DataW.trod_bool hu hx;exact⟨[.bool b],.one (.bool b),aj.cons (.bool b) (aj.nil _),fun v hv=>by simp at hv;subst hv;rfl⟩
   . rename_i hu;cases h;obtain⟨s,rfl,_,hs⟩:=DataW.trod_string hu hx;exact⟨[.str s],.one (.str s hs),aj.cons (.str s) (aj.nil _),fun v hv=>by simp at hv;subst hv;rfl⟩
   . rename_i e hu;split at h
     case h_2=>cases h
     rename_i L1 hL1;split at h
     case isFalse=>cases h
     rename_i hsz;cases h
     rcases DataW.trod_slice hu hx with⟨rfl,_⟩|⟨a,len,cap,elems,rest,m',_,rfl,_,hb,hlc,hcm,hel,hget,hrest,_⟩
     . exact⟨[.sl L1.length 0 [] .z],.one (.slnil L1),aj.cons (.slnil _) (aj.nil _),fun v hv=>by simp at hv;subst hv;rfl⟩
     . have hrow:∀i,i<len->∃r cs',OkL L1 r/\aj (seen W) r cs'/\(∀v∈cs',v.oneCell'=true)/\∀j,j<L1.length->W.cell? (a.add (i*L1.length+j))=cs'[j]? :=by
         intro i hi;have h1:=hget i hi;rw[List.getElem?_eq_getElem (by omega)]at h1
         cases hc:W.cells? base (a.add (i*P.cellsOf e)) (P.cellsOf e)with
         |none=>rw[hc]at h1;cases h1
         | some cs'=>
           rw[hc]at h1;obtain⟨_,hlen,hcell⟩:=World.cells?_some hc;obtain⟨r,k1,k2,k3⟩:=got n m' e L1 cs' _ hL1 h1 (by rw[hlen,hsz.1]);refine⟨r,cs',k1,k2,k3,fun j hj=> ?_⟩;have:=hcell j (by rw[hsz.1];exact hj);rw[<-this,hsz.1,l7]
       by_cases h0:len=0
       . subst h0;by_cases hc0:cap=0
         . subst hc0;exact⟨[.sl L1.length 0 [] .ro],.one (.sl L1 [] (Nat.zero_le _) (fun r hr=>by simp at hr) (fun r hr=>by simp at hr)),aj.cons (.slx _ a) (aj.nil _),fun v hv=>by simp at hv;subst hv;rfl⟩
         . --a spare cell tells that the address is plain
           obtain⟨hr1,hr2⟩:=hrest rfl;have h1:=hr2 0 (by omega);rw[List.getElem?_eq_getElem (by omega)]at h1
           cases hc:W.cells? base (a.add ((0+0)*P.cellsOf e)) (P.cellsOf e)with
           |none=>rw[hc]at h1;cases h1
           | some cs'=>
             obtain⟨_,hlen,hcell⟩:=World.cells?_some hc;have:=hcell 0 (by omega)
             have hsp:a.spot=none:=by
               rw[List.getElem?_eq_getElem (by omega),l7]at this;have:=lI this;simpa[Addr.add] using this
             obtain⟨b,o,s⟩:=a;cases hsp
             exact⟨[.sl L1.length 0 [] .ro],.one (.sl L1 [] (Nat.zero_le _) (fun r hr=>by simp at hr) (fun r hr=>by simp at hr)),
               aj.cons (.sl (fun _=>default) (by simp) (by simp) (Nat.zero_le _) (fun i hi=>by simp at hi) (fun i x hx=>by simp at hx) (.inl rfl)) (aj.nil _),fun v hv=>by simp at hv;subst hv;rfl⟩
       . have hsp:a.spot=none:=by
           obtain⟨r,cs',k1,k2,k3,k4⟩:=hrow 0 (by omega);have:=k4 0 hsz.2;rw[List.getElem?_eq_getElem (by rw[<-k2.1,k1.1];exact hsz.2)]at this;have:=lI this;simpa[Addr.add] using this
         obtain⟨b,o,s⟩:=a;cases hsp
         have hrows:∀k,k<=len->∃rows:List (List AV),rows.length=k/\(∀r∈rows,OkL L1 r)/\∃f:Nat->Value,(∀i,i<k*L1.length->(seen W).imm ⟨b,o+i,none⟩=some (f i))∧
             ∀(i:Nat) (x:AV),rows.flatten[i]? =some x->Rep (seen W) x (f i):=by
           intro k
           induction k with
           |zero=>intro _;exact⟨[],rfl,fun r hr=>by simp at hr,fun _=>default,fun i hi=>by simp at hi,fun i x hx=>by simp at hx⟩
           | succ k ih=>
             intro hk;obtain⟨rows,r1,r2,f,f1,f2⟩:=ih (by omega);obtain⟨r,cs',k1,k2,k3,k4⟩:=hrow k (by omega)
             have hfl:rows.flatten.length=k*L1.length:=by
               rw[List.length_flatten]
               have:∀x∈rows.map List.length,x=L1.length:=by
                 intro x hx;obtain⟨r,hr,rfl⟩:=List.mem_map.1 hx;exact(r2 r hr).1
               rw[List.eq_replicate_of_mem this,List.sum_replicate_nat];simp[r1]
             have hcl:cs'.length=L1.length:=by rw[<-k2.1,k1.1]
             refine⟨rows++[r],by simp[r1],fun r' hr'=> ?_,fun i=>if i<k*L1.length then f i else cs'.getD (i-k*L1.length) default,fun i hi=> ?_,fun i x hx=> ?_⟩
             . rcases List.mem_append.1 hr' with h|h
               . exact r2 r' h
               . simp at h;subst h;exact k1
             . show _=some (if i<k*L1.length then f i else cs'.getD (i-k*L1.length) default)
               by_cases hlt:i<k*L1.length
               . rw[if_pos hlt];exact f1 i hlt
               . rw[if_neg hlt]
                 have hj:i-k*L1.length<L1.length:=by rw[Nat.succ_mul]at hi;omega
                 have h5:=k4 _ hj
                 have h6:k*L1.length+(i-k*L1.length)=i:=by omega
                 rw[h6,List.getElem?_eq_getElem (by omega)]at h5;rw[List.getD_eq_getElem?_getD,List.getElem?_eq_getElem (by omega),Option.getD_some];rw[bB]at h5;exact BE h5 (k3 _ (List.getElem_mem _))
             . rw[List.flatten_append,List.flatten_cons,List.flatten_nil,List.append_nil]at hx;by_cases hlt:i<k*L1.length
               . rw[List.getElem?_append_left (by omega)]at hx;simp only[hlt,if_true];exact f2 i x hx
               . rw[List.getElem?_append_right (by omega),hfl]at hx;simp only[hlt,if_false];obtain⟨v,hv,hr⟩:=k2.get hx;rw[List.getD_eq_getElem?_getD,hv,Option.getD_some];exact hr
         obtain⟨rows,r1,r2,f,f1,f2⟩:=hrows len (Nat.le_refl _)
         have hfl:rows.flatten.length=len*L1.length:=by
           rw[List.length_flatten]
           have:∀x∈rows.map List.length,x=L1.length:=by
             intro x hx;obtain⟨r,hr,rfl⟩:=List.mem_map.1 hx;exact(r2 r hr).1
           rw[List.eq_replicate_of_mem this,List.sum_replicate_nat];simp[r1]
         refine⟨[.sl L1.length rows.length rows.flatten .ro],.one (.sl L1 rows ?_ (fun r hr=>(r2 r hr).1) (fun r hr=>(r2 r hr).2)),aj.cons ?_ (aj.nil _),fun v hv=>by simp at hv;subst hv;rfl⟩
         . rw[r1];simp only[maxLen]at hcm;omega
         . rw[r1];exact .sl f (by rw[hfl];exact Nat.le_refl _) (by rw[hfl];exact Nat.mul_le_mul_right _ hlc) hlc (fun i hi=>f1 i (by rw[hfl]at hi;exact hi)) f2 (.inl rfl)
   . rename_i fs hu;split at h
     case h_2=>cases h
     rename_i L1 hL1;split at h
     case isFalse=>cases h
     rename_i hsz;cases h;obtain⟨xs,m',_,_,hcl,hxl,hf⟩:=DataW.trod_struct hu hx;have:=qw (H:=H) (enc:=enc) (W:=W) (base:=base) (sp:=fun _=>true) (held:=held) (cs:=cs) (m:=m') (fun t L ds x h1 h2 h3=> ?_) fs.toList 0 L hL1 (by omega) (fun f hf'=> ?_)
     . rwa[List.drop_zero]at this
     . exact got n m' t L ds x h1 h2 h3
     . obtain⟨i,hi,rfl⟩:=List.mem_iff_getElem.1 hf';have:=hf i fs[i] (by simp at hi;simp[hi]);rw[List.getElem?_eq_getElem (by simp at hi;omega)]at this;exact⟨_,by simpa using this⟩
   . rename_i k e hu;split at h
     case h_2=>cases h
     rename_i L1 hL1;split at h
     case isFalse=>cases h
     rename_i hsz;cases h;obtain⟨xs,m',_,_,hcl,hxl,hf⟩:=DataW.trod_array hu hx
     have stp:∀i,i<=k->Got W (List.replicate i L1).flatten (cs.take (i*L1.length)):=by
       intro i
       induction i with
       |zero=>intro _;rw[Nat.zero_mul,List.take_zero];exact⟨[],OkL.nil,aj.nil _,fun v hv=>by simp at hv⟩
       | succ i ih=>
         intro hi;have h1:=hf i (by omega);rw[List.getElem?_eq_getElem (by omega),hsz.1]at h1
         have hle:(i+1)*L1.length<=cs.length:=by rw[hcl,hsz.2.1];exact Nat.mul_le_mul_right _ hi
         rw[Nat.succ_mul]at hle;have h2:=got n m' e L1 _ _ hL1 h1 (by rw[List.length_take,List.length_drop];omega);have:=(ih (by omega)).append h2;rw[List.replicate_succ',List.flatten_append,List.flatten_cons,List.flatten_nil,List.append_nil,Nat.succ_mul,List.take_add];exact this
     have:=stp k (Nat.le_refl _)
     rwa[List.take_of_length_le (by rw[hcl,hsz.2.1];exact Nat.le_refl _)]at this
   . cases h
theorem yC {t:TypeId} {fs:Array Field} {L:List Sh} {v:Value} {d:DataW H} {ps:List MemPlace} {r:Reach} {b0:Nat} (hu:P.underlying t=some (.struct fs)) (hs:oi P 9 t=some L)
   (hval:Value.okWide P W r b0 t v) (hT:DataW.Trod enc P W base (fun _=>true) held t v d ps):∃xs,OkL L xs/\Rep (seen W) (.agg xs) v:=by
 simp only[Value.okWide,hu]at hval;obtain⟨cs,rfl,hsz,_⟩:=hval;obtain⟨m,hm⟩:=hT
 have hl:P.cellsOf t=L.length:=by
   have h:=hs;rw[oi,hu]at h;simp only at h;split at h
   case h_2=>cases h
   split at h
   case isFalse=>cases h
   rename_i hsz;cases h;exact hsz
 obtain⟨xs,k1,k2,_⟩:=got 9 m t L cs.toList _ hs hm (by rw[<-hl,<-hsz];simp);exact⟨xs,k1,by simpa using Rep.HC k2⟩
theorem wR {t:TypeId} {s:Sh} {v:Value} {d:DataW H} {ps:List MemPlace} {r:Reach} {b0:Nat} (hs:oi P 9 t=some [s]) (hn:∀fs,P.underlying t≠some (.struct fs))
   (hval:Value.okWide P W r b0 t v) (hT:DataW.Trod enc P W base (fun _=>true) held t v d ps):∃x,OkS s x/\Rep (seen W) x v:=by
 have hc:v.cells.toList=[v]:=by
   have h:=hs;rw[oi]at h;split at h
   . rename_i hu;obtain⟨n,rfl⟩:=okWide_int hu hval;rfl
   . rename_i hu;obtain⟨b,rfl⟩:=okWide_bool hu hval;rfl
   . rename_i hu;obtain⟨b,rfl⟩:=okWide_string hu hval;rfl
   . rename_i hu;simp only[Value.okWide,hu,Cell.okWide]at hval
     cases v<;>first|rfl|(simp[Cell.ok,hu]at hval)
   . rename_i hu;exact absurd hu (hn _)
   . split at h
     case h_2=>cases h
     split at h
     case isFalse=>cases h
     rename_i hsz;have hl:=congrArg List.length (Option.some.inj h);rw[Fp,List.length_singleton]at hl;omega
   . cases h
 obtain⟨m,hm⟩:=hT;obtain⟨xs,k1,k2,_⟩:=got 9 m t [s] _ _ hs hm (by rw[hc];rfl);rw[hc]at k2
 match xs,k1.1 with
 |[x],_=>exact⟨x,k1.2 0 s x rfl rfl,k2.head⟩
end
theorem F2 {P:Program} {tab:FuncId->Option an} (htab:ia P tab) {f:FuncId} {W:World} {avs:List AV} {args:Array Value} (hr:aj (seen W) avs args.toList) (h:(cbL tab).pc f avs=some (.plain (.bool true))) (hgl:ka W:=by intro g cs h;exact absurd (show none=some (g,cs)from h) (by simp)):
   Calls P f args W fun e W'=>e= .returned (.bool true)/\Below W.heap.size W W':=by
 obtain⟨n,hn⟩:=dC.1 h;have:=((kE htab n).pc f avs _ hn (seen W) W args (Gw W) hgl hr).2;rw[IE]at this
 refine(callsIn_wide.1 this).mono fun e W' he=> ?_
 obtain⟨I,k1,k2,k3,k4,k5⟩:=he;refine⟨?_,k1⟩
 cases e with
 |returned u=>cases k5;rfl
 |panicked _=>exact k5.elim
 |outgrown=>exact k5.elim
theorem qX {W W':World} (h:Below W.heap.size W W') (may:MemPlace->Prop):W.keptBut W' may:=by
 refine⟨h.os,h.output,fun i hi=> ?_⟩;rw[h.block i hi]
 cases W.heap[i]? with
 |none=>trivial
 |some o=>cases o<;>simp
theorem uu {W W':World} (h:Below W.heap.size W W') {p:MemPlace} (hp:p.block<W.heap.size):W.sameAt W' p:=by
 cases p with
 | cell b off=>
   show W'.cell? ⟨b,off,none⟩=W.cell? ⟨b,off,none⟩
   have hb:b<W.heap.size:=hp;simp only[World.cell?,h.block b hb]
 |map b=>exact h.block b hp
section
variable {H:Type} {enc:TypeId×Value->H} {P:Program} {W W':World}
theorem jW (hl:laidOutB P=true) (h:Below W.heap.size W W') {sp':Nat->Bool}:∀(ts:List TypeId) (vs:List Value) (ds:List (DataW H)) (ps:List MemPlace),(∀t∈ts,P.readableRec t=true/\t<P.types.size)→
   DataW.TrodAll enc P W 0 (fun _=>true) true ts vs ds ps->(∀p∈ps,sp' p.block=true)->DataW.TrodAll enc P W' 0 sp' true ts vs ds ps
 |[],[],[],_,_,hT,_=>hT
 | t::ts,v::vs,d::ds,ps,ht,hT,hs=>by
   have hlt:=DataW.TrodAll.lt hT;obtain⟨p,q,h1,h2,rfl⟩:=hT
   exact⟨p,q,Trod_stays hl (ht t (List.mem_cons_self ..)).1 (ht t (List.mem_cons_self ..)).2 h1 (fun x hx=>uu h (hlt x (List.mem_append_left _ hx))) (fun x hx=>hs x (List.mem_append_left _ hx)),
     jW hl h ts vs ds q (fun t' ht'=>ht t' (List.mem_cons_of_mem _ ht')) h2 (fun x hx=>hs x (List.mem_append_right _ hx)),rfl⟩
 |[],_::_,_,_,_,hT,_=>hT.elim
 |[],[],_::_,_,_,hT,_=>hT.elim
 |_::_,[],_,_,_,hT,_=>hT.elim
 |_::_,_::_,[],_,_,hT,_=>hT.elim
theorem FL {f:Func} {s:ChangeSpec} {apart fresh handsOn:Bool} {args:Array Value} {ds gs:List (DataW H)} {before:List MemPlace} {tb:TypeId} (hl:laidOutB P=true) (hv:s.vars=[])
   (ht:∀t∈f.params.toList,P.readableRec t=true/\t<P.types.size) (hres:f.resultTypes= #[tb]) (htb:P.underlying tb=some .bool)
   (hW:DataW.Whole enc P f.params.toList s.vars apart W args.toList ds gs before) (hfn:s.fn H (ds++gs)={results:=[.lit (.bool true)],args:=ds}) (h:Below W.heap.size W W'):
   s.post enc P f apart fresh handsOn false W args (.bool true) W':=by
 have hW0:=hW;obtain⟨p,q,hA,hV,rfl,hfz,hnd⟩:=hW;have hlt:=DataW.TrodAll.lt hA;refine⟨ds,gs,p++q,[],p,[],hW0, ?_, ?_, ?_,qX h _,fun h=>by cases h⟩
 . rw[hres,hfn];exact trodAll_cons_mk (shut_bool htb true) trodAll_mk0
 . rw[hfn];exact jW hl h _ _ _ _ ht hA (fun x hx=>by simpa using hlt x hx)
 . rw[hfn,hv];exact rfl
end
end Go.Am
