/- HOW A VALUE OF THE MODEL STANDS FOR ONE WITHOUT ADDRESSES, AND THE MODEL'S MEMORY FOR THE INTERPRETER'S: definitions, and that both last. No condition. -/
import Derived.Test.YtephfpdnhdpmkaaGreatDoorAmComp
set_option linter.all false
namespace Go.Am
open Go Go.RowKit
set_option linter.unusedSectionVars false
variable [dy]
inductive Loc where
 |blk (b:Nat)
 |own (v:Value)
 |row (b sz cap:Nat)
structure View where
 imm:Addr->Option Value
 loc:Nat->Option Loc
structure View.Le (V V':View):Prop where
 imm:∀p v,V.imm p=some v->V'.imm p=some v
 loc:∀i l,V.loc i=some l->V'.loc i=some l
theorem View.Le.refl (V:View):V.Le V:=⟨fun _ _ h=>h,fun _ _ h=>h⟩
theorem View.Le.trans {A B C:View} (h:A.Le B) (k:B.Le C):A.Le C:=⟨fun p v e=>k.imm p v (h.imm p v e),fun i l e=>k.loc i l (h.loc i l e)⟩
def aK (V:View) (id:Nat):Option Nat:=
 match V.loc id with
 |some (.blk b)=>some b
 |some (.own v)=>v.ownBlock
 |some (.row b _ _)=>some b
 |none=>none
theorem fX {V V':View} (hV:V.Le V') {id b:Nat} (h:aK V id=some b):aK V' id=some b:=by
 unfold aK at*
 cases hl:V.loc id with
 |none=>simp[hl]at h
 |some l=>rw[hV.loc _ _ hl];rw[hl]at h;exact h
inductive Rep (V:View):AV->Value->Prop
 |bool (b:Bool):Rep V (.bool b) (.bool b)
 |int (k:IntKind) (n:Int):Rep V (.int k n) (.int k n)
 |str (s:ByteArray):Rep V (.str s) (.string s)
 |agg {xs:List AV} {cs:Array Value} (hl:xs.length=cs.size) (h:∀(i:Nat) (x:AV) (v:Value),xs[i]? =some x->cs[i]? =some v->Rep V x v):Rep V (.agg xs) (.agg cs)
 |tup {xs:List AV} {cs:Array Value} (hl:xs.length=cs.size) (h:∀(i:Nat) (x:AV) (v:Value),xs[i]? =some x->cs[i]? =some v->Rep V x v):Rep V (.tup xs) (.tuple cs)
 |slnil (sz:Nat):Rep V (.sl sz 0 [] .z) (.slice none 0 0)
 |sl {sz n b o cap:Nat} {cs:List AV} {tk:Tk} (f:Nat->Value) (hn:n*sz<=cs.length) (hc:cs.length<=cap*sz) (hnc:n<=cap)
     (hi:∀i,i<cs.length->V.imm ⟨b,o+i,none⟩=some (f i)) (h:∀(i:Nat) (x:AV),cs[i]? =some x->Rep V x (f i)) (ht:tk= .ro∨(tk= .e/\cap=n/\cs.length=n*sz)):
     Rep V (.sl sz n cs tk) (.slice (some ⟨b,o,none⟩) n cap)
 |slo {sz n b cap g:Nat} {cs:List AV} (f:Nat->Value) (hn:cs.length=n*sz) (hnc:n<=cap) (hl:V.loc g=some (.own (.slice (some ⟨b,0,none⟩) n cap)))
     (hi:∀i,i<cs.length->V.imm ⟨b,i,none⟩=some (f i)) (h:∀(i:Nat) (x:AV),cs[i]? =some x->Rep V x (f i)):
     Rep V (.sl sz n cs (.own g)) (.slice (some ⟨b,0,none⟩) n cap)
 |slx (sz:Nat) (a:Addr):Rep V (.sl sz 0 [] .ro) (.slice (some a) 0 0)
 |msl {sz id off n b cap:Nat} (hl:aK V id=some b) (hnc:n<=cap):Rep V (.msl sz id off n) (.slice (some ⟨b,off,none⟩) n cap)
 |rsl {sz id n b cap:Nat} (hl:V.loc id=some (.row b sz cap)) (hnc:n<=cap):Rep V (.rsl sz id n) (.slice (some ⟨b,0,none⟩) n cap)
 |ptr {id off b:Nat} (hl:aK V id=some b):Rep V (.ptr id off) (.pointer (some ⟨b,off,none⟩))
 |cL:Rep V .cL (.pointer none)
 |bU {cs:List AV} {b o:Nat} (f:Nat->Value) (hi:∀i,i<cs.length->V.imm ⟨b,o+i,none⟩=some (f i)) (h:∀(i:Nat) (x:AV),cs[i]? =some x->Rep V x (f i)):
     Rep V (.bU cs) (.pointer (some ⟨b,o,none⟩))
 |fn {f:FuncId} {xs:List AV} {cs:Array Value} (hl:xs.length=cs.size) (h:∀(i:Nat) (x:AV) (v:Value),xs[i]? =some x->cs[i]? =some v->Rep V x v):Rep V (.fn f xs) (.func (.func f) #[] cs)
 |bnd {f:FuncId} {xs:List AV} {cs:Array Value} (hl:xs.length=cs.size) (h:∀(i:Nat) (x:AV) (v:Value),xs[i]? =some x->cs[i]? =some v->Rep V x v):Rep V (.bnd f xs) (.func (.func f) cs #[])
 |cO:Rep V .cO .nilFunc
 |iface {t:TypeId} {x:AV} {v:Value} (h:Rep V x v):Rep V (.iface t x) (.iface t v)
 |fI:Rep V .fI .nilIface
 |mp {id b:Nat} (hl:V.loc id=some (.blk b)):Rep V (.mp id) (.map (some b))
 |fj:Rep V .fj (.map none)
 |yld {id b:Nat} (hl:V.loc id=some (.blk b)):Rep V (.yld id) (.func (.yield b) #[] #[])
 |any (a:Option Addr) (n c:Nat):Rep V .any (.slice a n c)
theorem Rep.mono {V V':View} (hV:V.Le V') {a:AV} {v:Value} (h:Rep V a v):Rep V' a v:=by
 induction h with
 |bool b=>exact .bool b
 |int k n=>exact .int k n
 |str s=>exact .str s
 |agg hl _ ih=>exact .agg hl ih
 |tup hl _ ih=>exact .tup hl ih
 |slnil sz=>exact .slnil sz
 |sl f hn hc hnc hi _ ht ih=>exact .sl f hn hc hnc (fun i h=>hV.imm _ _ (hi i h)) ih ht
 |slo f hn hnc hl hi _ ih=>exact .slo f hn hnc (hV.loc _ _ hl) (fun i h=>hV.imm _ _ (hi i h)) ih
 |slx sz a=>exact .slx sz a
 |msl hl hnc=>exact .msl (fX hV hl) hnc
 |rsl hl hnc=>exact .rsl (hV.loc _ _ hl) hnc
 |ptr hl=>exact .ptr (fX hV hl)
 |cL=>exact .cL
 |bU f hi _ ih=>exact .bU f (fun i h=>hV.imm _ _ (hi i h)) ih
 |fn hl _ ih=>exact .fn hl ih
 |bnd hl _ ih=>exact .bnd hl ih
 |cO=>exact .cO
 |iface _ ih=>exact .iface ih
 |fI=>exact .fI
 |mp hl=>exact .mp (hV.loc _ _ hl)
 |fj=>exact .fj
 |yld hl=>exact .yld (hV.loc _ _ hl)
 |any a n c=>exact .any a n c
def aj (V:View) (xs:List AV) (vs:List Value):Prop:=xs.length=vs.length/\∀(i:Nat) (x:AV) (v:Value),xs[i]? =some x->vs[i]? =some v->Rep V x v
theorem aj.mono {V V':View} (hV:V.Le V') {xs:List AV} {vs:List Value} (h:aj V xs vs):aj V' xs vs:=⟨h.1,fun i x v hx hv=>(h.2 i x v hx hv).mono hV⟩
theorem aj.nil (V:View):aj V [] []:=⟨rfl,fun i x v hx=>by simp at hx⟩
theorem aj.cons {V:View} {x:AV} {v:Value} {xs:List AV} {vs:List Value} (h:Rep V x v) (hs:aj V xs vs):aj V (x::xs) (v::vs):=
 ⟨by simp[hs.1],fun i y u hy hu=>by
   cases i with
   |zero=>simp at hy hu;subst hy hu;exact h
   |succ i=>simp at hy hu;exact hs.2 i y u hy hu⟩
theorem aj.head {V:View} {x:AV} {v:Value} {xs:List AV} {vs:List Value} (h:aj V (x::xs) (v::vs)):Rep V x v:=h.2 0 x v rfl rfl
theorem aj.tail {V:View} {x:AV} {v:Value} {xs:List AV} {vs:List Value} (h:aj V (x::xs) (v::vs)):aj V xs vs:=
 ⟨by have:=h.1;simpa using this,fun i y u hy hu=>h.2 (i+1) y u (by simpa using hy) (by simpa using hu)⟩
theorem aj.append {V:View} {xs ys:List AV} {vs us:List Value} (h:aj V xs vs) (k:aj V ys us):aj V (xs++ys) (vs++us):=
 ⟨by simp[h.1,k.1],fun i x v hx hv=>by
   by_cases hi:i<xs.length
   . rw[List.getElem?_append_left hi]at hx;rw[List.getElem?_append_left (by rw[<-h.1];exact hi)]at hv;exact h.2 i x v hx hv
   . rw[List.getElem?_append_right (by omega)]at hx;rw[List.getElem?_append_right (by rw[<-h.1];omega),<-h.1]at hv
     exact k.2 _ x v hx hv⟩
theorem aj.take {V:View} {xs:List AV} {vs:List Value} (h:aj V xs vs) (n:Nat):aj V (xs.take n) (vs.take n):=
 ⟨by simp[h.1],fun i x v hx hv=>by
   rw[List.getElem?_take]at hx hv;split at hx
   . simp_all;exact h.2 i x v hx hv
   . cases hx⟩
theorem aj.drop {V:View} {xs:List AV} {vs:List Value} (h:aj V xs vs) (n:Nat):aj V (xs.drop n) (vs.drop n):=
 ⟨by simp[h.1],fun i x v hx hv=>by
   rw[List.getElem?_drop]at hx hv
   exact h.2 _ x v hx hv⟩
theorem aj.get {V:View} {xs:List AV} {vs:List Value} (h:aj V xs vs) {i:Nat} {x:AV} (hx:xs[i]? =some x):∃v,vs[i]? =some v/\Rep V x v:=by
 have hi:i<vs.length:=by rw[<-h.1];exact(List.getElem?_eq_some_iff.1 hx).1
 exact⟨vs[i],by simp[hi],h.2 i x _ hx (by simp[hi])⟩
theorem aj.set {V:View} {xs:List AV} {vs:List Value} (h:aj V xs vs) (i:Nat) {x:AV} {v:Value} (hx:Rep V x v):aj V (xs.set i x) (vs.set i v):=
 ⟨by simp[h.1],fun j y u hy hu=>by
   rw[List.getElem?_set]at hy hu;by_cases hij:i=j
   . subst hij;simp only[if_true]at hy hu
     split at hy<;>split at hu<;>simp_all
   . simp only[hij,if_false]at hy hu
     exact h.2 j y u hy hu⟩
theorem aj.replicate (V:View) (n:Nat) {x:AV} {v:Value} (h:Rep V x v):aj V (List.replicate n x) (List.replicate n v):=
 ⟨by simp,fun i y u hy hu=>by
   rw[List.getElem?_replicate]at hy hu
   split at hy<;>simp_all⟩
theorem cY {V:View} {xs:List AV} {cs:Array Value} (hl:xs.length=cs.size) (h:∀(i:Nat) (x:AV) (v:Value),xs[i]? =some x->cs[i]? =some v->Rep V x v):aj V xs cs.toList:=
 ⟨by simpa using hl,fun i x v hx hv=>h i x v hx (by simpa using hv)⟩
theorem Rep.HC {V:View} {xs:List AV} {vs:List Value} (h:aj V xs vs):Rep V (.agg xs) (.agg vs.toArray):= .agg (by simpa using h.1) fun i x v hx hv=>h.2 i x v hx (by simpa using hv)
theorem Rep.om {V:View} {xs:List AV} {vs:List Value} (h:aj V xs vs):Rep V (.tup xs) (.tuple vs.toArray):= .tup (by simpa using h.1) fun i x v hx hv=>h.2 i x v hx (by simpa using hv)
theorem Rep.fn' {V:View} {f:FuncId} {xs:List AV} {vs:List Value} (h:aj V xs vs):Rep V (.fn f xs) (.func (.func f) #[] vs.toArray):= .fn (by simpa using h.1) fun i x v hx hv=>h.2 i x v hx (by simpa using hv)
theorem Rep.N6 {V:View} {f:FuncId} {xs:List AV} {vs:List Value} (h:aj V xs vs):Rep V (.bnd f xs) (.func (.func f) vs.toArray #[]):= .bnd (by simpa using h.1) fun i x v hx hv=>h.2 i x v hx (by simpa using hv)
theorem Rep.undef (V:View):Rep V (.tup []) Go.undef:=Rep.om (V:=V) (aj.nil V)
theorem aj.whole {V:View} {xs:List AV} {vs:List Value} (h:aj V xs vs):aj V xs (vs.take xs.length):=by
 rw[List.take_of_length_le (Nat.le_of_eq h.1.symm)];exact h
theorem Rep.flat {V:View} {a:AV} {v:Value} (h:Rep V a v):aj V a.flat v.cells.toList:=by
 have h0:=h
 cases h with
 |agg hl h=>exact cY hl h
 |_=>exact aj.cons h0 (aj.nil V)
theorem Rep.mE {V:View} {a:AV} {v:Value} (h:Rep V a v):a.flat.length=v.cells.size:=by have:=h.flat.1;simpa using this
theorem Rep.one {V:View} {a:AV} {v:Value} (h:Rep V a v):v.oneCell'=a.one:=by cases h<;>rfl
theorem ba (xs:List AV):aA xs=true↔∀x∈xs,x.one=true:=by
 induction xs with
 |nil=>simp[aA]
 |cons x r ih=>simp[aA,ih]
theorem aj.aA {V:View} {xs:List AV} {vs:List Value} (h:aj V xs vs) (ha:aA xs=true):∀v∈vs,v.oneCell'=true:=by
 intro v hv;obtain⟨i,hi,rfl⟩:=List.mem_iff_getElem.1 hv
 have hx:i<xs.length:=by rw[h.1];exact hi
 have:=h.2 i xs[i] vs[i] (by simp[hx]) (by simp[hi]);rw[this.one];exact(ba xs).1 ha _ (List.getElem_mem hx)
def av.live:av->Bool
 | .dead=>false
 |_=>true
def C0:Ex->Option Code
 | .ret=>some .ret
 | .exit id=>some (.exit id)
 | .goto l=>some (.goto l)
 |_=>none
def LM:Nat->LoopState
 |0=> .ready
 |1=> .busy
 |2=> .done
 |_=> .exhausted
def Stm (ents:Array MapEntry) (clk:Nat):Prop:=clk=ents.size/\∀(i:Nat) (x:MapEntry),ents[i]? =some x->x.born=i
theorem Stm.push {ents:Array MapEntry} {clk:Nat} (h:Stm ents clk) (k v:Value):Stm (ents.push {key:=k,val:=v,born:=clk}) (clk+1):=by
 refine⟨by rw[Array.size_push,h.1],fun i x hx=> ?_⟩;rw[Array.getElem?_push]at hx;split at hx
 . cases hx;rename_i e;exact h.1.trans e.symm
 . exact h.2 i x hx
theorem Stm.modify {ents:Array MapEntry} {clk:Nat} (h:Stm ents clk) (i:Nat) (k v:Value):Stm (ents.modify i fun e=>{e with key:=k,val:=v}) clk:=by
 refine⟨by rw[Array.size_modify];exact h.1,fun j x hx=> ?_⟩;rw[Array.getElem?_modify]at hx;split at hx
 . obtain⟨y,hy,rfl⟩:=Option.map_eq_some_iff.1 hx;exact h.2 j y hy
 . exact h.2 j x hx
def mU (P:Program) (w0:World) (V:View) (W:World) (id:Nat):av->Prop
 | .cells cs=>∃b vs t,aK V id=some b/\w0.heap.size<=b/\W.heap[b]? =some (.cells vs t (0,0))/\aj V cs (vs.toList.take cs.length)/\(∀v∈vs.toList.take cs.length,v.oneCell'=true)/\(∀off,V.imm ⟨b,off,none⟩=none)/\∀b' sz cap,V.loc id=some (.row b' sz cap)->vs.size=cap*sz/\cap<=maxLen
 | .map es=>∃b ents clk,V.loc id=some (.blk b)/\w0.heap.size<=b/\W.heap[b]? =some (.map ents clk)/\aj V (es.map (·.1)) (ents.toList.map (·.key))/\aj V (es.map (·.2)) (ents.toList.map (·.val))/\Stm ents clk
 | .tok size=>∃v e n xs b,V.loc id=some (.own v)/\W.ownsRow w0.heap.size e size v n xs/\v.ownBlock=some b/\∀off,n*size<=off->V.imm ⟨b,off,none⟩=none
 | .loop st pend tm ps as bd=>∃b l,V.loc id=some (.blk b)/\w0.heap.size<=b/\W.heap[b]? =some (.loop l)/\l.state=LM st/\l.pending=C0 pend/\aj V tm l.tmps.toList/\l.params.toList=ps/\bq P l.assign=some as/\bq P l.body=some bd
 | .gA=>∃b,V.loc id=some (.blk b)/\w0.heap.size<=b/\W.heap[b]? =some (.deferred (some []))
 | .dead=>True
 | .raw o=>∃b,V.loc id=some (.blk b)/\w0.heap.size<=b/\W.heap[b]? =some o
def ka [dy] (W:World):Prop:=∀g cs,dy.mz=some (g,cs)->∃t fr,W.heap[g]? =some (.cells cs t fr)
theorem ka.below [dy] {w0 W:World} (h:ka w0) (k:Below w0.heap.size w0 W):ka W:=fun g cs e=>by
 obtain⟨t,fr,q⟩:=h g cs e;exact⟨t,fr,by rw[k.block g (Array.getElem?_eq_some_iff.1 q).1,q]⟩
structure WR (P:Program) (w0:World) (V:View) (H:ab) (W:World):Prop where
 below:Below w0.heap.size w0 W
 imm:∀p v,V.imm p=some v->W.cell? p=some v/\v.oneCell'=true
 obj:∀id o,H[id]? =some o->mU P w0 V W id o
 inj:∀id id' o o' b,H[id]? =some o->H[id']? =some o'->o.live=true->o'.live=true->aK V id=some b->aK V id'=some b->id=id'
 fresh:∀id,H.length<=id->V.loc id=none
 mz:ka w0
theorem WR.glb {P:Program} {w0:World} {V:View} {H:ab} {W:World} (h:WR P w0 V H W):ka W:=h.mz.below h.below
theorem WR.size {P:Program} {w0:World} {V:View} {H:ab} {W:World} (h:WR P w0 V H W):w0.heap.size<=W.heap.size:=h.below.size
theorem mU.blk {P:Program} {w0:World} {V:View} {W:World} {id:Nat} {o:av} (h:mU P w0 V W id o) (hl:o.live=true):∃b,aK V id=some b/\w0.heap.size<=b/\b<W.heap.size:=by
 cases o with
 |cells cs=>obtain⟨b,vs,t,hb,hge,hh,_⟩:=h;exact⟨b,hb,hge,(Array.getElem?_eq_some_iff.1 hh).1⟩
 |map es=>obtain⟨b,vs,t,hb,hge,hh,_⟩:=h;exact⟨b,by simp[aK,hb],hge,(Array.getElem?_eq_some_iff.1 hh).1⟩
 | tok size=>
   obtain⟨v,e,n,xs,b,hb,hown,hob,_⟩:=h;obtain⟨h1,h2⟩:=hown.lt b hob;exact⟨b,by simp[aK,hb,hob],h1,h2⟩
 |loop=>obtain⟨b,vs,hb,hge,hh,_⟩:=h;exact⟨b,by simp[aK,hb],hge,(Array.getElem?_eq_some_iff.1 hh).1⟩
 |gA=>obtain⟨b,hb,hge,hh⟩:=h;exact⟨b,by simp[aK,hb],hge,(Array.getElem?_eq_some_iff.1 hh).1⟩
 |raw o=>obtain⟨b,hb,hge,hh⟩:=h;exact⟨b,by simp[aK,hb],hge,(Array.getElem?_eq_some_iff.1 hh).1⟩
 |dead=>cases hl
structure Stp (V:View) (W:World) (V':View) (W':World) (row:Option Nat):Prop where
 le:V.Le V'
 grown:W.grownBy W' row
 new:∀p v,V'.imm p=some v->V.imm p=some v∨W.heap.size<=p.block∨some p.block=row
structure bO (w0:World) (V V':View):Prop where
 le:V.Le V'
 new:∀p v,V'.imm p=some v->V.imm p=some v∨w0.heap.size<=p.block
theorem bO.refl (w0:World) (V:View):bO w0 V V:=⟨.refl V,fun _ _ h=> .inl h⟩
theorem bO.trans {w0:World} {A B C:View} (h:bO w0 A B) (k:bO w0 B C):bO w0 A C:=⟨h.le.trans k.le,fun p v hp=>(k.new p v hp).elim (h.new p v) .inr⟩
theorem Stp.grow {w0:World} {V V':View} {W W':World} {row:Option Nat} (h:Stp V W V' W' row) (hw:w0.heap.size<=W.heap.size) (hr:∀b,row=some b->w0.heap.size<=b):bO w0 V V':=
 ⟨h.le,fun p v hp=>(h.new p v hp).imp id fun h=>h.elim (Nat.le_trans hw) fun h=>hr _ h.symm⟩
theorem Stp.refl (V:View) (W:World) (row:Option Nat):Stp V W V W row:=⟨.refl V,⟨rfl,rfl,rfl,Nat.le_refl _,fun _ _ _=>rfl⟩,fun _ _ h=> .inl h⟩
theorem Stp.trans {A B C:View} {a b c:World} (h:Stp A a B b none) (k:Stp B b C c none):Stp A a C c none:=
 ⟨h.le.trans k.le,⟨k.grown.os.trans h.grown.os,k.grown.tape.trans h.grown.tape,k.grown.output.trans h.grown.output,Nat.le_trans h.grown.size k.grown.size,
   fun i hi hn=>(k.grown.block i (Nat.lt_of_lt_of_le hi h.grown.size) (by simp)).trans (h.grown.block i hi hn)⟩,
  fun p v hp=>by
   rcases k.new p v hp with h1|h1|h1
   . exact h.new p v h1
   . exact .inr (.inl (Nat.le_trans h.grown.size h1))
   . cases h1⟩
theorem mU.kept {P:Program} {w0:World} {V V':View} {W W':World} {row:Option Nat} {id:Nat} {o:av} (h:mU P w0 V W id o) (hs:Stp V W V' W' row)
   (hne:o.live=true->∀b,aK V id=some b->some b≠row):mU P w0 V' W' id o:=by
 have noimm:∀b off,b<W.heap.size->some b≠row->V.imm ⟨b,off,none⟩=none->V'.imm ⟨b,off,none⟩=none:=by
   intro b off hb hr hn
   cases hp:V'.imm ⟨b,off,none⟩with
   |none=>rfl
   | some v=>
     rcases hs.new _ _ hp with h1|h1|h1
     . rw[hn]at h1;cases h1
     . exact absurd h1 (by simp;omega)
     . exact absurd h1 hr
 cases o with
 | cells cs=>
   obtain⟨b,vs,t,hb,hge,hh,hr,h1,hi,hrw⟩:=h;have hlt:=(Array.getElem?_eq_some_iff.1 hh).1;have hn:=hne rfl b hb;refine⟨b,vs,t,fX hs.le hb,hge,by rw[hs.grown.block b hlt hn];exact hh,hr.mono hs.le,h1,fun off=>noimm b off hlt hn (hi off),fun b' sz cap hl=>hrw b' sz cap ?_⟩
   cases hv:V.loc id with
   |none=>rw[aK,hv]at hb;cases hb
   |some l=>rw[hs.le.loc _ _ hv]at hl;exact hl
 | map es=>
   obtain⟨b,vs,t,hb,hge,hh,hr,h1,h2⟩:=h;have hlt:=(Array.getElem?_eq_some_iff.1 hh).1;have hn:=hne rfl b (by simp[aK,hb]);exact⟨b,vs,t,hs.le.loc _ _ hb,hge,by rw[hs.grown.block b hlt hn];exact hh,hr.mono hs.le,h1.mono hs.le,h2⟩
 | tok size=>
   obtain⟨v,e,n,xs,b,hb,hown,hob,hi⟩:=h;have hlt:=(hown.lt b hob).2;have hn:=hne rfl b (by simp[aK,hb,hob]);exact⟨v,e,n,xs,b,hs.le.loc _ _ hb,hown.kept hs.grown (.inr (by rw[hob];exact hn)),hob,fun off ho=>noimm b off hlt hn (hi off ho)⟩
 | loop st pend tm ps as bd=>
   obtain⟨b,l,hb,hge,hh,h1,h2,h3,h4⟩:=h;have hlt:=(Array.getElem?_eq_some_iff.1 hh).1;have hn:=hne rfl b (by simp[aK,hb]);exact⟨b,l,hs.le.loc _ _ hb,hge,by rw[hs.grown.block b hlt hn];exact hh,h1,h2,h3.mono hs.le,h4⟩
 | gA=>
   obtain⟨b,hb,hge,hh⟩:=h;have hlt:=(Array.getElem?_eq_some_iff.1 hh).1;have hn:=hne rfl b (by simp[aK,hb]);exact⟨b,hs.le.loc _ _ hb,hge,by rw[hs.grown.block b hlt hn];exact hh⟩
 | raw o=>
   obtain⟨b,hb,hge,hh⟩:=h;have hlt:=(Array.getElem?_eq_some_iff.1 hh).1;have hn:=hne rfl b (by simp[aK,hb]);exact⟨b,hs.le.loc _ _ hb,hge,by rw[hs.grown.block b hlt hn];exact hh⟩
 |dead=>trivial
theorem Below.ik {w0 W W':World} {row:Option Nat} (h:Below w0.heap.size w0 W) (hg:W.grownBy W' row) (hr:∀b,row=some b->w0.heap.size<=b):Below w0.heap.size w0 W':=
 h.grown hg h.size hr
theorem WR.step {P:Program} {w0:World} {V V':View} {H:ab} {W W':World} (h:WR P w0 V H W) (hs:Stp V W V' W' none)
   (hi:∀p v,V'.imm p=some v->W'.cell? p=some v/\v.oneCell'=true) (hf:∀id,H.length<=id->V'.loc id=none):WR P w0 V' H W':=by
 refine⟨Below.ik h.below hs.grown (by simp),hi,fun id o ho=>(h.obj id o ho).kept hs (by simp), ?_,hf,h.mz⟩;intro id id' o o' b ho ho' hl hl' hb hb'
 have back:∀i o,H[i]? =some o->o.live=true->aK V' i=some b->aK V i=some b:=by
   intro i o hio hlo hbi;obtain⟨c,hc,_⟩:=(h.obj i o hio).blk hlo;have:=fX hs.le hc;rw[hbi]at this;rw[hc,<-this]
 exact h.inj id id' o o' b ho ho' hl hl' (back _ _ ho hl hb) (back _ _ ho' hl' hb')
theorem WR.drew {P:Program} {w0:World} {V:View} {H:ab} {W:World} (h:WR P w0 V H W):WR P w0 V H W.drew:=
 h.step ⟨.refl V,⟨rfl,rfl,rfl,Nat.le_refl _,fun _ _ _=>rfl⟩,fun _ _ hp=> .inl hp⟩ (fun p v hp=>h.imm p v hp) h.fresh
end Go.Am
