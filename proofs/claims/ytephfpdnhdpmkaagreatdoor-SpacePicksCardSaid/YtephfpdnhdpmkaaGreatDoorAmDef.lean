/- THE ABSTRACT INTERPRETER, ITS DEFINITIONS: values without addresses (slices as lists of cells), a compiled form of a function's code, and a deterministic interpreter over it. Nothing is proved here. No condition. -/
import Derived.RangeFuncLeaves
import Derived.RecoverIn
import Derived.OrdersIn
import Derived.Below
import Derived.Maps.AppendAt
import Derived.Laws.StructEq
set_option linter.all false
namespace Go.Am
open Go
inductive Tk where
 |ro
 |z
 |e
 |own (g:Nat)
inductive AV where
 |bool (b:Bool)
 |int (k:IntKind) (n:Int)
 |str (s:ByteArray)
 |agg (cs:List AV)
 |tup (vs:List AV)
 |sl (sz n:Nat) (cs:List AV) (tk:Tk)
 |msl (sz id off n:Nat)
 |rsl (sz id n:Nat)
 |ptr (id off:Nat)
 |db
 |bX (cs:List AV)
 |fn (f:FuncId) (caps:List AV)
 |bnd (f:FuncId) (first:List AV)
 |da
 |iface (t:TypeId) (v:AV)
 |fJ
 |mp (id:Nat)
 |fB
 |yld (id:Nat)
 |any
instance : Inhabited AV := ⟨.tup []⟩
def AV.flat:AV->List AV
 | .agg cs=>cs
 |v=>[v]
def AV.one:AV->Bool
 | .agg _=>false
 | .tup _=>false
 |_=>true
def aw:List AV->Bool
 |[]=>true
 |v::r=>v.one&&aw r
def Tk.isZ:Tk->Bool
 | .z=>true
 |_=>false
def Tk.empty:Tk->Bool
 | .z=>true
 | .e=>true
 |_=>false
def Tk.hf:Tk->Bool
 | .own _=>false
 |_=>true
mutual
def AV.hf:AV->Bool
 | .agg cs=>hfL cs
 | .tup vs=>hfL vs
 | .sl _ _ cs tk=>hfL cs&&tk.hf
 | .msl _ _ _ _=>false
 | .rsl _ _ _=>false
 | .ptr _ _=>false
 | .bX cs=>hfL cs
 | .fn _ cs=>hfL cs
 | .bnd _ cs=>hfL cs
 | .iface _ v=>AV.hf v
 | .mp _=>false
 | .yld _=>false
 |_=>true
def hfL:List AV->Bool
 |[]=>true
 |v::r=>AV.hf v&&hfL r
end
class dN where
 places:List String
 rJ:List String:=[]
 rows:List String:=[]
 nX:Option (Nat×Array Value):=none
inductive X where
 |t (i:Nat)
 |c (v:AV)
def X.ev (tm:List AV):X->AV
 | .t i=>tm.getD i (.tup [])
 | .c v=>v
inductive EqK where
 |num
 |bool
 |iface
 |ptr
 |func
 |map
 |slice
 |str
 |struct (ks:List Nat)
inductive CvK where
 |int (k:IntKind)
 |same
 |s2b
 |b2s
inductive AOp where
 |mv (x:X)
 |pick (c a b:X)
 |alloc (zs:List AV)
 |box (x:X)
 |build (zs:List AV) (ps:List (Nat×Nat×X))
 |aY (sz len:Nat) (zs:List AV) (ps:List (Nat×Nat×X))
 |ir (sz len:Nat) (zs:List AV) (ps:List (Nat×Nat×X))
 |mm (mx:Bool) (x y:X)
 |load (sz:Nat) (ag:Bool) (x:X)
 |store (sz:Nat) (a v:X)
 |fld (off:Nat) (x:X)
 |part (off sz:Nat) (ag:Bool) (x:X)
 |ixa (sz:Nat) (x i:X)
 |bn (n sz:Nat) (x i:X)
 |ixv (n sz:Nat) (ag:Bool) (x i:X)
 |ixs (x i:X)
 |bin (op:BinOp) (ek:EqK) (x y:X)
 |un (op:UnOp) (x:X)
 |conv (k:CvK) (x:X)
 |oh (t:TypeId) (x:X)
 |gf (f:FuncId) (caps:List X)
 |jt
 |lookup (kk:Nat) (zero:AV) (x i:X) (ok:Bool)
 |iL (kk:Nat) (x k v:X)
 |ff (t:TypeId) (zero:AV) (x:X) (ok:Bool)
 |ext (x:X) (i:Nat)
 |slice (sz:Nat) (x:X) (lo hi:Option X)
 |fG (x:X) (lo hi:Option X)
 |oV (sz:Nat) (x:X) (lo hi mx:Option X)
 |len (k:Nat) (x:X)
 |append (sz bytes:Nat) (x y:X)
 |iS (sz bytes:Nat) (x y:X)
 |fa (sz bytes:Nat) (x y:X)
 |bw (f:FuncId) (args:List X)
 |jC (rw:Bool) (f:FuncId) (args:List X)
 |ct (x:X) (args:List X)
 |fE
 |panic (x:X)
 |dfr (x:X) (args:List X)
 |bg (x:X)
 |fS (sz bytes:Nat) (zs:List AV) (l c:X)
 |e9 (sz bytes:Nat) (zs:List AV) (l c:X)
 |jq (f:FuncId) (first:List X)
 |rT (x c:X)
 |ui (sz bytes:Nat) (zs:List AV) (x n:X)
 |kT (n sz:Nat) (x:X) (lo hi:Option X)
 |l7 (n:Nat) (x:X)
 |chk (lx sx:List X)
 |qG (x:X)
 |vN (sz bytes:Nat) (x y:X)
 |uK (x c:X)
 |clr (sz:Nat) (zs:List AV) (x:X)
 |cpy (sz:Nat) (x y:X)
 |mI (f:FuncId) (args:List X)
 |rZ (x:X)
 |oZ (sz bytes:Nat) (x y:X)
 |ja (sz bytes:Nat) (zs:List AV) (x n:X)
 |oF (sz len:Nat) (zs:List AV) (ps:List (Nat×Nat×X))
def AOp.xs:AOp->List X
 | .mv x=>[x]
 | .pick c a b=>[c,a,b]
 | .alloc _=>[]
 | .box x=>[x]
 | .build _ ps=>ps.map (·.2.2)
 | .aY _ _ _ ps=>ps.map (·.2.2)
 | .ir _ _ _ ps=>ps.map (·.2.2)
 | .mm _ x y=>[x,y]
 | .load _ _ x=>[x]
 | .store _ a v=>[a,v]
 | .fld _ x=>[x]
 | .part _ _ _ x=>[x]
 | .ixa _ x i=>[x,i]
 | .bn _ _ x i=>[x,i]
 | .ixv _ _ _ x i=>[x,i]
 | .ixs x i=>[x,i]
 | .bin _ _ x y=>[x,y]
 | .un _ x=>[x]
 | .conv _ x=>[x]
 | .oh _ x=>[x]
 | .gf _ caps=>caps
 | .jt=>[]
 | .lookup _ _ x i _=>[x,i]
 | .iL _ x k v=>[x,k,v]
 | .ff _ _ x _=>[x]
 | .ext x _=>[x]
 | .slice _ x lo hi=>x::(lo.toList++hi.toList)
 | .fG x lo hi=>x::(lo.toList++hi.toList)
 | .oV _ x lo hi mx=>x::(lo.toList++(hi.toList++mx.toList))
 | .len _ x=>[x]
 | .append _ _ x y=>[x,y]
 | .iS _ _ x y=>[x,y]
 | .fa _ _ x y=>[x,y]
 | .bw _ args=>args
 | .jC _ _ args=>args
 | .ct x args=>x::args
 | .fE=>[]
 | .panic x=>[x]
 | .dfr x args=>x::args
 | .bg x=>[x]
 | .fS _ _ _ l c=>[l,c]
 | .e9 _ _ _ l c=>[l,c]
 | .jq _ fs=>fs
 | .rT x c=>[x,c]
 | .ui _ _ _ x n=>[x,n]
 | .kT _ _ x lo hi=>x::(lo.toList++hi.toList)
 | .l7 _ x=>[x]
 | .chk l s=>l++s
 | .qG x=>[x]
 | .vN _ _ x y=>[x,y]
 | .uK x c=>[x,c]
 | .clr _ _ x=>[x]
 | .cpy _ x y=>[x,y]
 | .mI _ xs=>xs
 | .rZ x=>[x]
 | .oZ _ _ x y=>[x,y]
 | .ja _ _ _ x n=>[x,n]
 | .oF _ _ _ ps=>ps.map (·.2.2)
structure ai where
 dst:Option Nat
 op:AOp
 guard:Option (Nat×Bool)
abbrev qo (d:Nat) (o:AOp):ai:=⟨some d,o,none⟩
abbrev qe (o:AOp):ai:=⟨none,o,none⟩
abbrev qg (d:Nat) (o:AOp) (t:Nat) (b:Bool):ai:=⟨some d,o,some (t,b)⟩
abbrev qm (d i:Nat):ai:=⟨some d,.mv (.t i),none⟩
abbrev ql (d i:Nat):ai:=⟨some d,.load 1 false (.t i),none⟩
abbrev qf (d off i:Nat):ai:=⟨some d,.fld off (.t i),none⟩
abbrev qi (n:Int):X:= .c (.int .i64 n)
abbrev qu (n:Int):X:= .c (.int .u64 n)
abbrev qt:X:= .c (.bool true)
abbrev qz:X:= .c (.bool false)
abbrev qn (d:Nat) (o:BinOp) (x y:X):ai:=⟨some d,.bin o .num x y,none⟩
abbrev qL (d sz i:Nat):ai:=⟨some d,.load sz true (.t i),none⟩
abbrev qx (d i j:Nat):ai:=⟨some d,.ext (.t i) j,none⟩
abbrev qp (d c a b:Nat):ai:=⟨some d,.pick (.t c) (.t a) (.t b),none⟩
abbrev qk (d c:Nat) (x y:X):ai:=⟨some d,.pick (.t c) x y,none⟩
abbrev qc (d:Nat) (f:FuncId) (xs:List X):ai:=⟨some d,.bw f xs,none⟩
abbrev qs (i:Nat) (x:X):ai:=⟨none,.store 1 (.t i) x,none⟩
def ij:List X->List Nat
 |[]=>[]
 | .t i::r=>i::ij r
 | .c _::r=>ij r
def ai.reads (o:ai):List Nat:=
 match o.guard with
 |none=>ij o.op.xs
 |some (t,_)=>t::ij o.op.xs
def qV (x y:ai):Bool:=
 (match x.dst with
  |some d=> !(y.reads.contains d)&&y.dst !=some d
  |none=>true)&&
 (match y.dst with
  |some d=> !(x.reads.contains d)
  |none=>true)
inductive aD where
 |skip
 |region (ops:List ai)
 |drawn (pre tail:List ai)
 |seq (a b:aD)
 |cond (c:X) (a b:aD)
 |block (id:Nat) (c:aD)
 |loop (c:aD)
 |range (f:X) (ps:List Nat) (assign body:aD)
 |exit (id:Nat)
 |scope (c:aD)
 |b9 (w c:aD)
 |label (l:Nat)
 |goto (l:Nat)
 |ret
inductive nt where
 |tmp (t:Nat)
 |cell (t sz:Nat) (ag:Bool)
inductive PR where
 |plain (v:AV)
 |fresh (sz n:Nat) (cs:List AV)
 |iO (es:List (AV×AV))
 |pan (c:List (AV×Bool))
 |qy (v:AV)
inductive Ex where
 |normal
 |exit (id:Nat)
 |goto (l:Nat)
 |ret
 |panic (chain:List (AV×Bool))
inductive aj where
 |cells (cs:List AV)
 |map (es:List (AV×AV))
 |tok (sz:Nat)
 |loop (st:Nat) (pend:Ex) (tm:List AV) (ps:List Nat) (assign body:aD)
 |cZ
 |dead
 |raw (o:Obj)
inductive ADf where
 |call (f:FuncId) (args:List AV)
 |mark (id:Nat)
structure Fr where
 tm:List AV
 df:List ADf
inductive Out where
 |ret (v:AV)
 |pan (c:List (AV×Bool))
abbrev ab:=List aj
structure av where
 np:Nat
 res:List nt
 body:aD
 mode:Nat
 con:Option (List AV->Option PR)
 nC:Option (List AV->ab->Option (Out×ab)):=none
def dV (cs:List AV):List (Nat×Nat×AV)->Option (List AV)
 |[]=>some cs
 | (off,sz,v)::r=>
   if v.flat.length=sz/\off+sz<=cs.length then dV (cs.take off++v.flat++cs.drop (off+sz)) r else none
def evP (tm:List AV):List (Nat×Nat×X)->List (Nat×Nat×AV)
 |[]=>[]
 |(o,s,x)::r=>(o,s,x.ev tm)::evP tm r
def dP (cs:List AV) (off sz:Nat) (ag:Bool):Option AV:=
 if ag then if off+sz<=cs.length then some (.agg ((cs.drop off).take sz))else none else cs[off]?
def bits (op:BinOp) (k:IntKind) (x y:Int):Option AV:=
 let a:=BitVec.ofInt k.bits x
 let b:=BitVec.ofInt k.bits y
 match op with
 | .and=>some (.int k (k.wrap (a&&& b).toNat))
 | .or=>some (.int k (k.wrap (a|||b).toNat))
 | .xor=>some (.int k (k.wrap (a^^^b).toNat))
 | .andNot=>some (.int k (k.wrap (a&&& ~~~b).toNat))
 |_=>none
def dK (op:BinOp) (k:IntKind) (a:Int) (k':IntKind) (b:Int):Option AV:=
 match op with
 | .shl=>if b<0 then none else some (.int k (k.wrap (a*2^(min b.toNat k.bits))))
 | .shr=>if b<0 then none else some (.int k (a.fdiv (2^(min b.toNat k.bits))))
 | .add=>if k=k' then some (.int k (k.wrap (a+b)))else none
 | .sub=>if k=k' then some (.int k (k.wrap (a-b)))else none
 | .mul=>if k=k' then some (.int k (k.wrap (a*b)))else none
 | .quo=>if k=k'/\b≠0 then some (.int k (k.wrap (a.tdiv b)))else none
 | .rem=>if k=k'/\b≠0 then some (.int k (a.tmod b))else none
 | .eql=>if k=k' then some (.bool (a==b))else none
 | .neq=>if k=k' then some (.bool (a !=b))else none
 | .lss=>if k=k' then some (.bool (decide (a<b)))else none
 | .leq=>if k=k' then some (.bool (decide (a<=b)))else none
 | .gtr=>if k=k' then some (.bool (decide (a>b)))else none
 | .geq=>if k=k' then some (.bool (decide (a≥b)))else none
 | .and=>if k=k' then bits .and k a b else none
 | .or=>if k=k' then bits .or k a b else none
 | .xor=>if k=k' then bits .xor k a b else none
 | .andNot=>if k=k' then bits .andNot k a b else none
def uz (op:BinOp) (a b:ByteArray):Option AV:=
 match op with
 | .add=>if a.size+b.size<=9223372036854775807 then some (.str (a++b))else none
 | .eql=>some (.bool (a.toList==b.toList))
 | .neq=>some (.bool (!(a.toList==b.toList)))
 | .lss=>some (.bool (Op.bytesLess a.toList b.toList))
 | .leq=>some (.bool (Op.bytesLess a.toList b.toList||a.toList==b.toList))
 | .gtr=>some (.bool (!(Op.bytesLess a.toList b.toList||a.toList==b.toList)))
 | .geq=>some (.bool (!(Op.bytesLess a.toList b.toList)))
 |_=>none
def bk:Nat->AV->AV->Option Bool
 |0,.int k a,.int k' b=>if k=k' then some (a==b)else none
 |1,.bool a,.bool b=>some (a==b)
 |2,.str a,.str b=>some (a==b)
 |_,_,_=>none
def aX:List Nat->List AV->List AV->Option Bool
 |[],[],[]=>some true
 | k::ks,x::xs,y::ys=>
   match bk k x y with
   |some true=>aX ks xs ys
   |some false=>some false
   |none=>none
 |_,_,_=>none
def eqV (ek:EqK) (x y:AV):Option Bool:=
 match ek,x,y with
 | .bool,.bool a,.bool b=>some (a==b)
 | .iface,.fJ,.iface _ _=>some false
 | .iface,.iface _ _,.fJ=>some false
 | .ptr,.db,.db=>some true
 | .ptr,.db,.ptr _ _=>some false
 | .ptr,.ptr _ _,.db=>some false
 | .ptr,.db,.bX _=>some false
 | .ptr,.bX _,.db=>some false
 | .func,.da,.da=>some true
 | .func,.da,.fn _ _=>some false
 | .func,.fn _ _,.da=>some false
 | .map,.fB,.fB=>some true
 | .map,.fB,.mp _=>some false
 | .map,.mp _,.fB=>some false
 | .slice,.sl _ _ _ .z,.sl _ _ _ tk=>some tk.isZ
 | .slice,.sl _ _ _ _,.sl _ _ _ .z=>some false
 | .slice,.msl _ _ _ _,.sl _ _ _ .z=>some false
 | .slice,.rsl _ _ _,.sl _ _ _ .z=>some false
 | .struct ks,.agg xs,.agg ys=>aX ks xs ys
 |_,_,_=>none
def uO:X->Bool
 | .c .fJ=>true
 |_=>false
def bC (op:BinOp) (ek:EqK) (xo yo:X) (x y:AV):Option AV:=
 match x,y with
 | .int k a,.int k' b=>dK op k a k' b
 | .str a,.str b=>uz op a b
 | .fJ,.fJ=>
   match ek with
   | .iface=>if uO xo||uO yo then(match op with| .eql=>some (.bool true)| .neq=>some (.bool false)|_=>none)else none
   |_=>none
 | _,_=>
   match op with
   | .eql=>(eqV ek x y).map .bool
   | .neq=>(eqV ek x y).map fun b=> .bool (!b)
   |_=>none
def unV (op:UnOp) (x:AV):Option AV:=
 match op,x with
 | .not,.bool b=>some (.bool !b)
 | .neg,.int k n=>some (.int k (k.wrap (0-n)))
 | .xor,.int k n=>bits .xor k (if k.signed then-1 else k.max) n
 |_,_=>none
def cB (kk:Nat) (k:AV):List (AV×AV)->Nat->Option (Option (Nat×AV))
 |[],_=>some none
 | e::es,i=>
   match bk kk k e.1 with
   |some true=>some (some (i,e.2))
   |some false=>cB kk k es (i+1)
   |none=>none
def asNat (v:AV):Option Nat:=
 match v with
 | .int _ n=>if 0<=n then some n.toNat else none
 |_=>none
def bound (tm:List AV) (x:Option X) (d:Nat):Option Nat:=
 match x with
 |none=>some d
 |some x=>asNat (x.ev tm)
def Lz (b:UInt8):AV:= .int .u8 b.toNat
def jR (s:ByteArray):List AV:=s.data.toList.map Lz
def hU:List AV->Option (List UInt8)
 |[]=>some []
 | .int .u8 n::r=>(hU r).map (UInt8.ofNat n.toNat:: ·)
 |_=>none
def rS (c:UInt8):List UInt8->Option Nat
 |[]=>none
 |b::r=>if b==c then some 0 else(rS c r).map (· +1)
def Mw:Option Nat->AV
 |some i=> .int .i64 i
 |none=> .int .i64 (-1)
def cf:Nat->List AV->List AV
 |0,_=>[]
 |n+1,l=>l++cf n l
def gd (sz bytes:Nat) (zs:List AV) (l c:AV):Option Nat:=
 match l,c with
 | .int _ n,.int _ m=>if n=m/\0<=n/\zs.length=sz/\aw zs=true/\n.toNat*bytes<=70368744177664/\n.toNat<=70368744177664 then some n.toNat else none
 |_,_=>none
def ig:AV->List AV->Option (FuncId×List AV)
 | .fn f caps,as=>some (f,as++caps)
 | .bnd f fs,as=>some (f,fs++as)
 |_,_=>none
def kx (id:Nat):List AV->Bool
 |[]=>true
 | .ptr id' _::r=>if id'=id then false else kx id r
 | .db::_=>false
 |_::r=>kx id r
def cr:List AV->List AV->Bool
 |[],_=>true
 | .bX _::r,ss=>cr r ss
 | .ptr id _::r,ss=>if kx id ss then cr r ss else false
 |_::_,_=>false
def aU (o:AOp) (tm:List AV) (H:ab):Option AV:=
 match o with
 | .mv x=>some (x.ev tm)
 | .pick c a b=>match c.ev tm with
   | .bool t=>some (if t then a.ev tm else b.ev tm)
   |_=>none
 | .build zs ps=>(dV zs (evP tm ps)).map .agg
 | .aY sz len zs ps=>match dV zs (evP tm ps)with
   |some cs=>if aw cs&&cs.length==len*sz then some (.sl sz len cs (if len=0 then .e else .ro))else none
   |none=>none
 | .ir sz len zs ps=>match dV zs (evP tm ps)with
   |some cs=>if aw cs&&cs.length==len*sz then some (.sl sz len cs .e)else none
   |none=>none
 | .mm mx x y=>match x.ev tm,y.ev tm with
   | .int k a,.int _ b=>some (.int k (if mx then(if a<b then b else a)else(if b<a then b else a)))
   |_,_=>none
 | .load sz ag x=>match x.ev tm with
   | .ptr id off=>match H[id]? with
     |some (.cells cs)=>dP cs off sz ag
     |_=>none
   | .bX cs=>dP cs 0 sz ag
   |_=>none
 | .fld off x=>match x.ev tm with
   | .ptr id o=>some (.ptr id (o+off))
   | .bX cs=>some (.bX (cs.drop off))
   |_=>none
 | .part off sz ag x=>match x.ev tm with
   | .agg cs=>dP cs off sz ag
   |_=>none
 | .ixa sz x i=>match x.ev tm,i.ev tm with
   | .sl sz' n cs _,.int _ j=>if sz=sz'/\0<=j/\j<n then some (.bX (cs.drop (j.toNat*sz)))else none
   | .msl sz' id off n,.int _ j=>if sz=sz'/\0<=j/\j<n then some (.ptr id (off+j.toNat*sz))else none
   | .rsl sz' id n,.int _ j=>if sz=sz'/\0<=j/\j<n then some (.ptr id (j.toNat*sz))else none
   |_,_=>none
 | .bn n sz x i=>match x.ev tm,i.ev tm with
   | .ptr id off,.int _ j=>if 0<=j/\j<n then some (.ptr id (off+j.toNat*sz))else none
   | .bX cs,.int _ j=>if 0<=j/\j<n then some (.bX (cs.drop (j.toNat*sz)))else none
   |_,_=>none
 | .ixv n sz ag x i=>match x.ev tm,i.ev tm with
   | .agg cs,.int _ j=>if 0<=j/\j<n then dP cs (j.toNat*sz) sz ag else none
   |_,_=>none
 | .ixs x i=>match x.ev tm,i.ev tm with
   | .str s,.int _ j=>if 0<=j then(s[j.toNat]?).map fun b=> .int .u8 b.toNat else none
   |_,_=>none
 | .bin op ek x y=>bC op ek x y (x.ev tm) (y.ev tm)
 | .un op x=>unV op (x.ev tm)
 | .conv k x=>match k,x.ev tm with
   | .int k,.int _ n=>some (.int k (k.wrap n))
   | .same,.str s=>some (.str s)
   | .s2b,.str s=>if s.size<=70368744177664 then some (.sl 1 s.size (jR s) .ro)else none
   | .b2s,.sl sz n cs _=>if sz=1∨n=0 then(hU (cs.take n)).map fun l=> .str ⟨l.toArray⟩else none
   |_,_=>none
 | .oh t x=>some (.iface t (x.ev tm))
 | .chk lx sx=>if cr (lx.map (·.ev tm)) (sx.map (·.ev tm))then some (.tup [])else none
 | .qG x=>if aw (x.ev tm).flat then some (.bX (x.ev tm).flat)else none
 | .vN sz bytes x y=>match x.ev tm,y.ev tm with
   | .sl sz' 0 [] .e,.sl sz'' m ds _=>
     if 0<sz/\m*bytes<=70368744177664/\m<=70368744177664/\m≠0/\sz''=sz/\m*sz<=ds.length/\aw (ds.take (m*sz))=true then some (.sl sz m (ds.take (m*sz)) .ro)
     else if m=0 then some (.sl sz' 0 [] .e)else none
   |_,_=>none
 | .gf f caps=>some (.fn f (caps.map (·.ev tm)))
 | .jq f fs=>some (.bnd f (fs.map (·.ev tm)))
 | .rT x c=>match x.ev tm,c.ev tm with
   | .str s,.int .u8 k=>some (Mw (rS (UInt8.ofNat k.toNat) s.data.toList))
   |_,_=>none
 | .uK x c=>match x.ev tm,c.ev tm with
   | .str s,.int .u8 k=>some (.int .i64 (s.data.toList.count (UInt8.ofNat k.toNat):Nat))
   |_,_=>none
 | .fS sz bytes zs l c=>match gd sz bytes zs (l.ev tm) (c.ev tm)with
   |some n=>some (.sl sz n (cf n zs) .e)
   |none=>none
 | .lookup kk zero x i ok=>match x.ev tm with
   | .fB=>match bk kk (i.ev tm) (i.ev tm)with
     |some _=>some (if ok then .tup [zero,.bool false] else zero)
     |none=>none
   | .mp id=>match H[id]? with
     | some (.map es)=>match bk kk (i.ev tm) (i.ev tm),cB kk (i.ev tm) es 0 with
       |some _,some (some (_,v))=>some (if ok then .tup [v,.bool true] else v)
       |some _,some none=>some (if ok then .tup [zero,.bool false] else zero)
       |_,_=>none
     |_=>none
   |_=>none
 | .ff t zero x ok=>match x.ev tm with
   | .iface t' v=>if t'=t then some (if ok then .tup [v,.bool true] else v)else if ok then some (.tup [zero,.bool false])else none
   | .fJ=>if ok then some (.tup [zero,.bool false])else none
   |_=>none
 | .ext x i=>match x.ev tm with
   | .tup vs=>vs[i]?
   |_=>none
 | .slice sz x lo hi=>match x.ev tm with
   | .sl sz' n cs tk=>match bound tm lo 0,bound tm hi n with
     | some l,some h=>
       if sz=sz'/\0<sz/\l<=h/\h*sz<=cs.length then
         some (if l=0/\h=n then .sl sz n cs tk else .sl sz (h-l) (cs.drop (l*sz)) .ro)
       else if tk.isZ=true/\l=0/\h=0 then some (.sl sz' n cs tk)else none
     |_,_=>none
   | .msl sz' id off n=>match bound tm lo 0,bound tm hi n with
     |some l,some h=>if sz=sz'/\0<sz/\l<=h/\h<=n then some (if l=h then .sl sz 0 [] .ro else .msl sz id (off+l*sz) (h-l))else none
     |_,_=>none
   |_=>none
 | .oV sz x lo hi mx=>match x.ev tm with
   | .sl sz' n cs tk=>match bound tm lo 0,bound tm hi n,bound tm mx n with
     | some l,some h,some m=>
       if sz=sz'/\0<sz/\l<=h/\h=m/\h*sz<=cs.length/\tk.isZ=false then
         some (.sl sz (h-l) ((cs.take (h*sz)).drop (l*sz)) .ro)
       else none
     |_,_,_=>none
   | .msl sz' id off n=>match bound tm lo 0,bound tm hi n,bound tm mx n with
     |some l,some h,some m=>if sz=sz'/\0<sz/\l<=h/\h=m/\h<=n then some (if l=h then .sl sz 0 [] .ro else .msl sz id (off+l*sz) (h-l))else none
     |_,_,_=>none
   |_=>none
 | .fG x lo hi=>match x.ev tm with
   | .str s=>match bound tm lo 0,bound tm hi s.size with
     |some l,some h=>if l<=h/\h<=s.size then some (.str (s.extract l h))else none
     |_,_=>none
   |_=>none
 | .kT n sz x lo hi=>match x.ev tm with
   | .ptr id off=>match bound tm lo 0,bound tm hi n with
     |some l,some h=>if l<=h/\h<=n then some (if l=h then .sl sz 0 [] .ro else .msl sz id (off+l*sz) (h-l))else none
     |_,_=>none
   | .bX cs=>match bound tm lo 0,bound tm hi n with
     |some l,some h=>if l<=h/\h<=n/\n*sz<=cs.length then some (if l=h then .sl sz 0 [] .ro else .sl sz (h-l) ((cs.take (n*sz)).drop (l*sz)) .ro)else none
     |_,_=>none
   |_=>none
 | .l7 n x=>match x.ev tm with
   | .sl _ m cs _=>if 0<n/\n<=m then some (.bX cs)else none
   | .msl _ id off m=>if n<=m then some (.ptr id off)else none
   |_=>none
 | .len k x=>match k,x.ev tm with
   |0,.sl _ n _ _=>some (.int .i64 n)
   |0,.msl _ _ _ n=>some (.int .i64 n)
   |0,.rsl _ _ n=>some (.int .i64 n)
   |1,.str s=>some (.int .i64 s.size)
   |2,.fB=>some (.int .i64 0)
   | 2,.mp id=>match H[id]? with
     |some (.map es)=>some (.int .i64 es.length)
     |_=>none
   |_,_=>none
 | .bg x=>match x.ev tm with
   | .ptr id off=>some (.ptr id off)
   | .bX cs=>some (.bX cs)
   | .fn f cs=>some (.fn f cs)
   | .bnd f cs=>some (.bnd f cs)
   | .iface t v=>some (.iface t v)
   |_=>none
 |_=>none
inductive Nx where
 |val (v:AV)
 |skip
 |enter (f:FuncId) (args:List AV)
 |dR (rw:Bool) (f:FuncId) (args:List AV)
 |yield (id:Nat) (args:List AV)
 |pan (v:AV)
 |dfr (d:ADf)
 |fE
def rowOf (H:ab) (y:AV):AV:=
 match y with
 | .msl sz id off m=>match H[id]? with
   |some (.cells cs)=>if off+m*sz<=cs.length/\m≠0 then .sl sz m ((cs.drop off).take (m*sz)) .ro else y
   |_=>y
 |y=>y
def fQ (sz bytes:Nat) (x y:AV) (H:ab):Option (Nx×ab):=
 match x,y with
   | .sl sz' n cs tk,.sl sz'' m ds _=>
     if 0<sz/\(n+m)*bytes<=70368744177664/\n+m<=70368744177664 then
       if m=0 then(match tk with
         | .own g=>if sz'=sz then some (.val (.sl sz' n cs (.own g)),H)else none
         | .z=>some (.val (.sl sz' n cs .z),H)
         | .e=>some (.val (.sl sz' n cs .e),H)
         | .ro=>none)
       else if sz''=sz/\m*sz<=ds.length/\aw (ds.take (m*sz))then(match tk with
         | .z=>if n=0 then some (.val (.sl sz m (ds.take (m*sz)) (.own H.length)),H++[.tok sz])else none
         | .e=>if sz'=sz/\cs.length=n*sz then some (.val (.sl sz (n+m) (cs++ds.take (m*sz)) (.own H.length)),H++[.tok sz])else none
         | .own g=>match H[g]? with
           |some (.tok sz3)=>if sz3=sz/\sz'=sz then some (.val (.sl sz (n+m) (cs++ds.take (m*sz)) (.own H.length)),H.set g .dead++[.tok sz])else none
           |_=>none
         | .ro=>none)
       else none
     else none
   |_,_=>none
def jx (sz bytes:Nat) (x y:AV) (H:ab):Option (Nx×ab):=
 match x,y with
 | .rsl sz' id n,.sl sz'' m ds _=>
   if 0<sz/\(n+m)*bytes<=70368744177664/\n+m<=70368744177664/\m≠0/\sz''=sz/\sz'=sz/\m*sz<=ds.length/\aw (ds.take (m*sz))=true then
     match H[id]? with
     |some (.cells cs)=>if cs.length=n*sz/\aw cs=true then some (.val (.rsl sz H.length (n+m)),H.set id .dead++[.cells (cs++ds.take (m*sz))])else none
     |_=>none
   else none
 | .sl sz' n cs tk,.sl sz'' m ds _=>
   if 0<sz/\m*bytes<=70368744177664/\m<=70368744177664/\m≠0/\n=0/\tk.empty=true/\sz''=sz/\m*sz<=ds.length/\aw (ds.take (m*sz))=true then
     some (.val (.rsl sz H.length m),H++[.cells (ds.take (m*sz))])
   else
   if 0<sz/\(n+m)*bytes<=70368744177664/\n+m<=70368744177664/\m≠0/\n≠0/\tk.empty=true/\sz'=sz/\cs.length=n*sz/\sz''=sz/\m*sz<=ds.length/\aw (ds.take (m*sz))=true then
     some (.val (.rsl sz H.length (n+m)),H++[.cells (cs++ds.take (m*sz))])
   else
   none
 |_,_=>none
def bN (o:AOp) (tm:List AV) (H:ab):Option (Nx×ab):=
 match o with
 | .alloc zs=>some (.val (.ptr H.length 0),H++[.cells zs])
 | .box x=>if aw (x.ev tm).flat then some (.val (.ptr H.length 0),H++[.cells (x.ev tm).flat])else none
 | .store sz a x=>match a.ev tm with
   | .ptr id off=>match H[id]? with
     | some (.cells cs)=>
       if(x.ev tm).flat.length=sz/\off+sz<=cs.length/\aw (x.ev tm).flat then
         some (.skip,H.set id (.cells (cs.take off++(x.ev tm).flat++cs.drop (off+sz))))
       else none
     |_=>none
   |_=>none
 | .clr sz zs x=>match x.ev tm with
   | .sl _ 0 _ _=>some (.val (.tup []),H)
   | .msl sz' id off n=>match H[id]? with
     | some (.cells cs)=>
       if sz'=sz/\zs.length=sz/\n≠0/\off+n*sz<=cs.length/\aw zs=true then
         some (.val (.tup []),H.set id (.cells (cs.take off++cf n zs++cs.drop (off+n*sz))))
       else none
     |_=>none
   |_=>none
 | .cpy sz x y=>match x.ev tm,rowOf H (y.ev tm)with
   | .msl sz' id off n,.sl sz'' m ds _=>match H[id]? with
     | some (.cells cs)=>
       if m=0 then some (.val (.int .i64 0),H)
       else if sz'=sz/\sz''=sz/\min m n*sz<=ds.length/\off+min m n*sz<=cs.length/\aw (ds.take (min m n*sz))=true then
         some (.val (.int .i64 (min m n:Nat)),H.set id (.cells (cs.take off++ds.take (min m n*sz)++cs.drop (off+min m n*sz))))
       else none
     |_=>none
   |_,_=>none
 | .jt=>some (.val (.mp H.length),H++[.map []])
 | .iL kk x k v=>match x.ev tm with
   | .mp id=>match H[id]? with
     | some (.map es)=>match bk kk (k.ev tm) (k.ev tm),cB kk (k.ev tm) es 0 with
       |some _,some (some (i,_))=>some (.skip,H.set id (.map (es.set i (k.ev tm,v.ev tm))))
       |some _,some none=>some (.skip,H.set id (.map (es++[(k.ev tm,v.ev tm)])))
       |_,_=>none
     |_=>none
   |_=>none
 | .append sz bytes x y=>fQ sz bytes (x.ev tm) (rowOf H (y.ev tm)) H
 | .iS sz bytes x y=>match x.ev tm,y.ev tm with
   | .sl sz' n cs tk,.sl sz'' m ds _=>
     if 0<sz/\(n+m)*bytes<=70368744177664/\n+m<=70368744177664 then
       if m≠0/\sz''=sz/\m*sz<=ds.length/\aw (ds.take (m*sz))/\n=0/\tk.empty then some (.val (.msl sz H.length 0 m),H++[.cells (ds.take (m*sz))])
       else if m=0/\tk.empty then some (.val (.sl sz' n cs tk),H)else none
     else none
   |_,_=>none
 | .fa sz bytes x y=>jx sz bytes (x.ev tm) (y.ev tm) H
 | .bw f args=>some (.enter f (args.map (·.ev tm)),H)
 | .jC rw f args=>some (.dR rw f (args.map (·.ev tm)),H)
 | .mI f args=>some (.dR false f (args.map (·.ev tm)),H)
 | .rZ x=>if aw (x.ev tm).flat then some (.val (.ptr H.length 0),H++[.cells (x.ev tm).flat])else none
 | .ct x args=>match x.ev tm with
   | .fn f caps=>some (.enter f (args.map (·.ev tm)++caps),H)
   | .bnd f fs=>some (.enter f (fs++args.map (·.ev tm)),H)
   | .yld id=>some (.yield id (args.map (·.ev tm)),H)
   |_=>none
 | .fE=>some (.fE,H)
 | .panic x=>match x.ev tm with
   | .iface t v=>some (.pan (.iface t v),H)
   |_=>none
 | .dfr x args=>match x.ev tm with
   | .fn f caps=>some (.dfr (.call f (args.map (·.ev tm)++caps)),H)
   |_=>none
 | .e9 sz bytes zs l c=>match gd sz bytes zs (l.ev tm) (c.ev tm)with
   |some n=>some (.val (.msl sz H.length 0 n),H++[.cells (cf n zs)])
   |none=>none
 | .oF sz len zs ps=>match dV zs (evP tm ps)with
   |some cs=>if aw cs&&cs.length==len*sz then some (.val (.rsl sz H.length len),H++[.cells cs])else none
   |none=>none
 | .ui sz bytes zs x n=>match x.ev tm,gd sz bytes zs (n.ev tm) (n.ev tm)with
   | .sl sz' k cs (.own g),some m=>fQ sz bytes (.sl sz' k cs (.own g)) (.sl sz m (cf m zs) .ro) H
   | .rsl sz' id k,some m=>jx sz bytes (.rsl sz' id k) (.sl sz m (cf m zs) .ro) H
   |_,_=>none
 |_=>none
structure CB where
 pc:FuncId->List AV->Option PR
 ic:FuncId->List AV->ab->Option (Out×ab)
 yl:Nat->List AV->ab->Option (Out×ab)
 run:Option Nat->aD->Fr->ab->Option (Ex×Fr×ab)
 cC:FuncId->Bool
def bZ (tm:List AV) (d:Option Nat) (v:AV):List AV:=
 match d with
 |some d=>tm.set d v
 |none=>tm
def bE (tm:List AV) (g:Option (Nat×Bool)):Bool:=
 match g with
 |none=>true
 | some (t,b)=>match tm[t]? with
   |some (.bool b')=>b'==b
   |_=>false
def AV.lz:AV->Bool
 | .bool _=>true
 | .int _ _=>true
 | .str _=>true
 |_=>false
def AV.Bc:AV->Bool
 | .bool _=>true
 | .int _ _=>true
 | .str _=>true
 | .agg vs=>vs.all (·.lz)
 |_=>false
def AV.bare:AV->Bool
 | .bool _=>true
 | .int _ _=>true
 | .str _=>true
 | .db=>true
 | .da=>true
 | .fJ=>true
 | .fB=>true
 | .iface _ v=>v.lz
 | .tup vs=>vs.all (·.Bc)
 | .agg vs=>vs.all (·.lz)
 | .sl _ 0 [] .z=>true
 |_=>false
def au:AV->AV
 | .sl sz n cs (.own _)=> .sl sz n cs .ro
 |v=>v
def bO (H:ab):Nat->AV->AV
 |0,v=>v
 | k+1,v=>
   match v with
   | .msl sz id off n=>match H[id]? with
     |some (.cells cs)=>if off+n*sz<=cs.length then .sl sz n (((cs.drop off).take (n*sz)).map (bO H k)) .ro else v
     |_=>v
   | .rsl sz id n=>match H[id]? with
     |some (.cells cs)=>if n*sz<=cs.length then .sl sz n ((cs.take (n*sz)).map (bO H k)) .ro else v
     |_=>v
   | .ptr id off=>match H[id]? with
     |some (.cells cs)=> .bX (((cs.drop off).map (bO H k)).map au)
     |_=>v
   | .agg cs=> .agg (cs.map (bO H k))
   |v=>v
def uF (cb:CB) (f:FuncId) (args:List AV) (H:ab):Option PR:=
 match cb.pc f (args.map (bO H 4))with
 |some (.plain v)=>if v.bare then some (.plain v)else none
 |some (.fresh sz n cs)=>if cs.all (·.lz)then some (.fresh sz n cs)else none
 |some (.iO _)=>none
 |some (.pan c)=>if c.all (·.1.bare)then some (.pan c)else none
 |some (.qy v)=>some (.plain v)
 |none=>none
def pcx (cb:CB) (f:FuncId) (args:List AV) (H:ab):Option PR:=
 if cb.cC f then uF cb f args H else cb.pc f args
def eL (cb:CB) (rw:Bool) (f:FuncId) (args:List AV) (H:ab):Option (Out×ab):=
 match pcx cb f args H with
 |some (.plain v)=>some (.ret v,H)
 |some (.fresh sz n cs)=>if cs.all (·.lz)&&cs.length==n*sz then some (.ret (if rw then .rsl sz H.length n else .msl sz H.length 0 n),H++[.cells cs])else none
 |some (.iO es)=>some (.ret (.mp H.length),H++[.map es])
 |some (.pan c)=>some (.pan c,H)
 |some (.qy _)=>none
 |none=>none
def dY (cb:CB) (f:FuncId) (args:List AV) (H:ab):Option (Out×ab):=
 match pcx cb f args H with
 |some (.plain v)=>some (.ret v,H)
 |some (.fresh sz n cs)=>some (.ret (.sl sz n cs (.own H.length)),H++[.tok sz])
 |some (.iO es)=>some (.ret (.mp H.length),H++[.map es])
 |some (.pan c)=>some (.pan c,H)
 |some (.qy _)=>none
 |none=>if cb.cC f then none else cb.ic f args H
def aV (cb:CB) (rd:Option Nat):List ai->Fr->ab->Option (Ex×Fr×ab)
 |[],fr,H=>some (.normal,fr,H)
 | o::rest,fr,H=>
   if bE fr.tm o.guard then
     match aU o.op fr.tm H with
     |some v=>aV cb rd rest {fr with tm:=bZ fr.tm o.dst v} H
     | none=>
       match bN o.op fr.tm H with
       |some (.val v,H')=>aV cb rd rest {fr with tm:=bZ fr.tm o.dst v} H'
       |some (.skip,H')=>aV cb rd rest {fr with tm:=bZ fr.tm o.dst (.tup [])} H'
       | some (.enter f args,H')=>
         match dY cb f args H' with
         |some (.ret v,H'')=>aV cb rd rest {fr with tm:=bZ fr.tm o.dst v} H''
         |some (.pan c,H'')=>some (.panic c,fr,H'')
         |none=>none
       | some (.dR rw f args,H')=>
         match eL cb rw f args H' with
         |some (.ret v,H'')=>aV cb rd rest {fr with tm:=bZ fr.tm o.dst v} H''
         |some (.pan c,H'')=>some (.panic c,fr,H'')
         |none=>none
       | some (.yield id args,H')=>
         match cb.yl id args H' with
         |some (.ret v,H'')=>aV cb rd rest {fr with tm:=bZ fr.tm o.dst v} H''
         |some (.pan c,H'')=>some (.panic c,fr,H'')
         |none=>none
       |some (.pan v,H')=>some (.panic [(v,false)],fr,H')
       |some (.dfr d,H')=>if rd.isSome then none else aV cb rd rest {tm:=bZ fr.tm o.dst (.tup []),df:=d::fr.df} H'
       |_=>none
   else aV cb rd rest {fr with tm:=bZ fr.tm o.dst (.tup [])} H
def lj (sz bytes:Nat) (x y:AV) (g:Nat):Option (AV×Option aj):=
 match x,y with
 | .sl _ n _ tk,.sl sz'' m ds _=>
   if 0<sz/\m*bytes<=70368744177664/\m<=70368744177664/\m≠0/\n=0/\tk.empty=true/\sz''=sz/\m*sz<=ds.length/\aw (ds.take (m*sz))=true then
     some (.sl sz m (ds.take (m*sz)) (.own g),some (.tok sz))
   else none
 |_,_=>none
def Fm (sz bytes:Nat) (zs:List AV) (n:AV):Option (Nat×List AV):=
 match n with
 | .sl sz' m ds _=>if zs.isEmpty=true/\(m=0∨sz'=sz)/\m*sz<=ds.length/\aw (ds.take (m*sz))=true then some (m,ds.take (m*sz))else none
 | n=>match gd sz bytes zs n n with
   |some m=>if m≠0 then some (m,cf m zs)else none
   |none=>none
def mL (h sz bytes:Nat) (zs:List AV) (x n:AV) (G:ab) (g:Nat):Option (AV×Option aj):=
 match x,Fm sz bytes zs n with
 | .sl sz' k cs (.own g0),some (m,ds)=>
   match G[g0]? with
   |some (.tok sz3)=>if h<=g0/\sz3=sz/\sz'=sz/\0<sz/\(k+m)*bytes<=70368744177664/\k+m<=70368744177664 then some (.sl sz (k+m) (cs++ds) (.own g),some (.tok sz))else none
   |_=>none
 |_,_=>none
def mK (h sz bytes:Nat) (zs:List AV) (x n:AV) (G:ab) (g:Nat):Option (AV×Option aj):=
 match x with
 | .sl sz' k cs (.own g0)=>mL h sz bytes zs (.sl sz' k cs (.own g0)) n G g
 |x=>if zs.isEmpty=true then lj sz bytes x n g else none
def apX (h:Nat) (op:AOp) (tm:List AV) (G:ab) (g:Nat):Option (AV×Option aj):=
 match op with
 | .oZ sz bytes x y=>lj sz bytes (x.ev tm) (y.ev tm) g
 | .ja sz bytes zs x n=>mK h sz bytes zs (x.ev tm) (n.ev tm) G g
 |_=>none
def bR (o:ai) (tm:List AV):Option Nat:=
 if bE tm o.guard then
   match o.op with
   | .ja _ _ _ x _=>match x.ev tm with
     | .sl _ _ _ (.own g0)=>some g0
     |_=>none
   |_=>none
 else none
def kD (h:Nat) (k:Option Nat) (e:List aj):List aj:=
 match k with
 |some g0=>e.set (g0-h) .dead
 |none=>e
def ap1 (cb:CB) (H G:ab) (o:ai) (tm:List AV) (g:Nat):Option (AV×Option aj):=
 if bE tm o.guard then
   match aU o.op tm H with
   |some v=>some (v,none)
   | none=>
     match o.op with
     | .alloc zs=>some (.ptr g 0,some (.cells zs))
     | .lookup kk zero (.t i) k ok=>(aU (.lookup kk zero (.t i) k ok) tm G).map fun v=>(v,none)
     | .bw f args=>
       match pcx cb f (args.map (·.ev tm)) H with
       |some (.plain v)=>some (v,none)
       |some (.fresh sz n cs)=>some (.sl sz n cs (.own g),some (.tok sz))
       |some (.iO es)=>some (.mp g,some (.map es))
       |_=>none
     | .ct x args=>
       match ig (x.ev tm) (args.map (·.ev tm))with
       | some (f,as)=>
         match pcx cb f as H with
         |some (.plain v)=>some (v,none)
         |some (.fresh sz n cs)=>some (.sl sz n cs (.own g),some (.tok sz))
         |some (.iO es)=>some (.mp g,some (.map es))
         |_=>none
       |none=>none
     | .mI f args=>
       match pcx cb f (args.map (·.ev tm)) H with
       |some (.fresh sz n cs)=>if cs.all (·.lz)&&cs.length==n*sz then some (.msl sz g 0 n,some (.cells cs))else none
       |_=>none
     | .rZ x=>if aw (x.ev tm).flat then some (.ptr g 0,some (.cells (x.ev tm).flat))else none
     |op=>apX H.length op tm G g
 else some (.tup [],none)
def jv (cb:CB) (H:ab):List ai->List AV->List aj->Option (List AV×List aj)
 |[],tm,e=>some (tm,e)
 | o::rest,tm,e=>
   match ap1 cb H (H++e) o tm (H.length+e.length)with
   |some (v,k)=>jv cb H rest (bZ tm o.dst v) (kD H.length (bR o tm) (e++k.toList))
   |none=>none
def eZ:aD->Nat->Option aD
 | .seq a b,l=>
   match eZ a l with
   |some rest=>some (.seq rest b)
   |none=>eZ b l
 | .label l',l=>if l'==l then some .skip else none
 |_,_=>none
def cc (H:ab) (id:Nat):Option (Nat×Ex×List AV×List Nat×aD×aD):=
 match H[id]? with
 |some (.loop st pend tm ps as bd)=>some (st,pend,tm,ps,as,bd)
 |_=>none
def Ex.jumps:Ex->Bool
 | .panic _=>false
 |_=>true
def aN (cb:CB) (rd:Option Nat):aD->Fr->ab->Option (Ex×Fr×ab)
 | .skip,fr,H=>some (.normal,fr,H)
 | .label _,fr,H=>some (.normal,fr,H)
 | .exit id,fr,H=>some (.exit id,fr,H)
 | .goto l,fr,H=>some (.goto l,fr,H)
 | .ret,fr,H=>some (.ret,fr,H)
 | .region ops,fr,H=>aV cb rd ops fr H
 | .drawn pre tail,fr,H=>
   match jv cb H pre fr.tm [] with
   |some (tm,e)=>aV cb rd tail {fr with tm:=tm} (H++e)
   |none=>none
 | .seq a b,fr,H=>
   match aN cb rd a fr H with
   |some (.normal,fr',H')=>aN cb rd b fr' H'
   |r=>r
 | .cond x a b,fr,H=>
   match x.ev fr.tm with
   | .bool true=>aN cb rd a fr H
   | .bool false=>aN cb rd b fr H
   |_=>none
 | .block id a,fr,H=>
   match aN cb rd a fr H with
   |some (.exit id',fr',H')=>if id'=id then some (.normal,fr',H')else some (.exit id',fr',H')
   |r=>r
 | .loop a,fr,H=>
   match aN cb rd a fr H with
   |some (.normal,fr',H')=>cb.run rd (.loop a) fr' H'
   |r=>r
 | .scope a,fr,H=>
   match aN cb rd a fr H with
   | some (.goto l,fr',H')=>
     match eZ a l with
     |some rest=>cb.run rd (.b9 a rest) fr' H'
     |none=>some (.goto l,fr',H')
   |r=>r
 | .b9 w a,fr,H=>
   match aN cb rd a fr H with
   | some (.goto l,fr',H')=>
     match eZ w l with
     |some rest=>cb.run rd (.b9 w rest) fr' H'
     |none=>some (.goto l,fr',H')
   |r=>r
 | .range x ps as bd,fr,H=>
   match (match rd with
     |none=>some (H.length+1,({fr with df:= .mark H.length::fr.df}:Fr),H++[.cZ,.loop 0 .normal fr.tm ps as bd])
     | some l=>match cc H l with
       |some _=>some (H.length,fr,H++[.loop 0 .normal fr.tm ps as bd])
       |none=>none)with
   | some (id,fr1,H1)=>
     match x.ev fr.tm with
     | .fn f caps=>
       match cb.ic f (.yld id::caps) H1 with
       | some (.ret _,H2)=>
         match cc H2 id with
         | some (st,pend,tm,ps',as',bd')=>
           if st=1|| !pend.jumps then none else
             some (pend,fr1,H2.set id (.loop 3 pend tm ps' as' bd'))
         |none=>none
       |_=>none
     |_=>none
   |none=>none
inductive Mode where
 |returning
 |panicking (chain:List (AV×Bool))
def uj:Mode->Mode
 | .panicking ((_,true)::_)=> .returning
 |m=>m
def AO (u:Mode) (chain:List (AV×Bool)):Mode:=
 match u with
 | .panicking old=> .panicking (chain++old)
 |_=> .panicking chain
def lQ (tm:List AV) (H:ab):List nt->Option (List AV)
 |[]=>some []
 | .tmp t::r=>(lQ tm H r).map (tm.getD t (.tup []):: ·)
 | .cell t sz ag::r=>
   match tm.getD t (.tup [])with
   | .ptr id off=>
     match H[id]? with
     | some (.cells cs)=>
       match dP cs off sz ag,lQ tm H r with
       |some v,some vs=>some (v::vs)
       |_,_=>none
     |_=>none
   |_=>none
def ae:List AV->AV
 |[v]=>v
 |vs=> .tup vs
def fr0 (np:Nat) (args:List AV):Fr:={tm:=args++List.replicate (np-args.length) (.tup []),df:=[]}
def dp (cb:CB):List ai->Fr->ab->Mode->Option (Ex×Fr×ab×Mode)
 |[],fr,H,u=>some (.normal,fr,H,u)
 | o::rest,fr,H,u=>
   if bE fr.tm o.guard then
     match aU o.op fr.tm H with
     |some v=>dp cb rest {fr with tm:=bZ fr.tm o.dst v} H u
     | none=>
       match o.op with
       | .fE=>
         match u with
         | .panicking ((v,false)::older)=>dp cb rest {fr with tm:=bZ fr.tm o.dst v} H (.panicking ((v,true)::older))
         |_=>dp cb rest {fr with tm:=bZ fr.tm o.dst .fJ} H u
       |_=>none
   else dp cb rest {fr with tm:=bZ fr.tm o.dst (.tup [])} H u
def xe:List ai->Bool
 |[]=>false
 |o::r=>(match o.op with| .fE=>true|_=>false)||xe r
def dm (cb:CB):aD->Fr->ab->Mode->Option (Ex×Fr×ab×Mode)
 | .region ops,fr,H,u=>
   if xe ops then dp cb ops fr H u
   else match aN cb none (.region ops) fr H with
     |some (e,fr',H')=>some (e,fr',H',u)
     |none=>none
 | .seq a b,fr,H,u=>
   match dm cb a fr H u with
   |some (.normal,fr',H',u')=>dm cb b fr' H' u'
   |r=>r
 | c,fr,H,u=>
   match aN cb none c fr H with
   |some (e,fr',H')=>some (e,fr',H',u)
   |none=>none
def mQ (cb:CB) (fi:av) (args:List AV) (H:ab) (u:Mode):Option (Out×ab×Mode):=
 match dm cb fi.body (fr0 fi.np args) H u with
 | some (e,fr',H',u')=>
   match fr'.df,e with
   |[],.normal|[],.ret=>(lQ fr'.tm H' fi.res).map fun vs=>(.ret (ae vs),H',u')
   |[],.panic c=>some (.pan c,H',u')
   |_,_=>none
 |none=>none
def b6 (tab:FuncId->Option av) (cb:CB):List ADf->Mode->ab->Option (Mode×ab)
 |[],u,H=>some (u,H)
 | .mark id::ds,u,H=>
   match H[id]? with
   |some .cZ=>b6 tab cb ds u (H.set id .dead)
   |_=>none
 | .call f args::ds,u,H=>
   match tab f with
   | some fi=>
     match mQ cb fi args H u with
     |some (.ret _,H',u')=>b6 tab cb ds (uj u') H'
     |some (.pan c,H',u')=>b6 tab cb ds (AO u' c) H'
     |none=>none
   |none=>none
def gx (tab:FuncId->Option av) (cb:CB) (fi:av) (args:List AV) (H:ab):Option (Out×ab):=
 match aN cb none fi.body (fr0 fi.np args) H with
 | some (e,fr,H1)=>
   match (match e with| .normal| .ret=>some Mode.returning| .panic c=>some (Mode.panicking c)|_=>none)with
   | some u=>
     match b6 tab cb fr.df u H1 with
     |some (.returning,H2)=>(lQ fr.tm H2 fi.res).map fun vs=>(.ret (ae vs),H2)
     |some (.panicking c,H2)=>some (.pan c,H2)
     |none=>none
   |none=>none
 |none=>none
def aE:AV->AV
 | .agg cs=> .agg (cs.map au)
 |v=>au v
def aL:AV->AV
 | .tup vs=> .tup (vs.map aE)
 | .agg cs=> .agg (cs.map au)
 |v=>v
def aH (r:Option (Out×ab)):Option PR:=
 match r with
 | some (.ret (.sl sz n cs (.own g)),H)=>
   match H[g]? with
   |some (.tok sz')=>if sz'=sz&&hfL cs then some (.fresh sz n cs)else none
   |_=>none
 | some (.ret (.msl sz id off n),H)=>
   match H[id]? with
   |some (.cells cs)=>if off+n*sz<=cs.length/\hfL cs=true then some (.plain (.sl sz n ((cs.drop off).take (n*sz)) .ro))else none
   |_=>none
 | some (.ret (.rsl sz id n),H)=>
   match H[id]? with
   |some (.cells cs)=>if cs.length=n*sz/\n≠0/\hfL cs=true then some (.fresh sz n cs)else none
   |_=>none
 | some (.ret (.tup [.msl sz id off n,v]),H)=>
   match H[id]? with
   |some (.cells cs)=>if off+n*sz<=cs.length/\hfL cs=true/\v.hf=true then some (.plain (.tup [.sl sz n ((cs.drop off).take (n*sz)) .ro,v]))else none
   |_=>none
 | some (.ret (.tup [.rsl sz id n,v]),H)=>
   match H[id]? with
   |some (.cells cs)=>if n*sz<=cs.length/\hfL cs=true/\v.hf=true then some (.plain (.tup [.sl sz n (cs.take (n*sz)) .ro,v]))else none
   |_=>none
 | some (.ret (.mp id),H)=>
   match H[id]? with
   |some (.map es)=>if hfL (es.map (·.1))=true/\hfL (es.map (·.2))=true then some (.iO es)else none
   |_=>none
 |some (.ret v,_)=>if(aL v).hf then some (.plain (aL v))else none
 |some (.pan c,_)=>if hfL (c.map (·.1))then some (.pan c)else none
 |none=>none
def Fi {α β:Type} (f:α->Option β):List α->Option (List β)
 |[]=>some []
 | x::r=>match f x,Fi f r with
   |some y,some ys=>some (y::ys)
   |_,_=>none
def JZ (H:ab) (v:AV):Option AV:=
 match v with
 | .sl sz n cs (.own g)=>match H[g]? with
   |some (.tok sz')=>if sz'=sz/\cs.all (·.lz)=true then some (.sl sz n cs .ro)else none
   |_=>none
 | .sl sz 0 [] .z=>some (.sl sz 0 [] .z)
 | .sl _ _ _ _=>some .any
 | .rsl sz id n=>match H[id]? with
   |some (.cells cs)=>if n*sz<=cs.length/\(cs.take (n*sz)).all (·.lz)=true then some (.sl sz n (cs.take (n*sz)) .ro)else none
   |_=>none
 | .msl sz id off n=>match H[id]? with
   |some (.cells cs)=>if off+n*sz<=cs.length/\((cs.drop off).take (n*sz)).all (·.lz)=true then some (.sl sz n ((cs.drop off).take (n*sz)) .ro)else none
   |_=>none
 |v=>if v.lz then some v else none
def Jo (H:ab) (v:AV):Option AV:=
 match v with
 | .agg cs=>(Fi (JZ H) cs).map .agg
 |v=>JZ H v
def LS (H:ab) (v:AV):Option AV:=
 match v with
 | .tup vs=>(Fi (Jo H) vs).map .tup
 |v=>Jo H v
def Mc (r:Option (Out×ab)):Option PR:=
 match r with
 |some (.ret v,H)=>(LS H v).map .qy
 |some (.pan c,_)=>if hfL (c.map (·.1))then some (.pan c)else none
 |none=>none
def fm:AV->AV
 | .sl sz n cs tk=>au (.sl sz n (cs.map au) tk)
 |v=>v
def mZ:AV->AV
 | .agg cs=> .agg (cs.map fm)
 |v=>fm v
def kz (H:ab):AV->AV
 | .tup vs=> .tup ((vs.map (bO H 4)).map mZ)
 |v=>mZ (bO H 4 v)
def cT (r:Option (Out×ab)):Option PR:=
 match r with
 |some (.ret v,H)=>if(kz H v).hf then some (.plain (kz H v))else none
 |some (.pan c,_)=>if hfL (c.map (·.1))then some (.pan c)else none
 |none=>none
def r9 (m:Nat) (r:Option (Out×ab)):Option PR:=
 if m=5 then Mc r else
 if m=6 then cT r else
 aH r
theorem sO (m:Nat):r9 m none=none:=by
 unfold r9
 repeat' split
 all_goals rfl
def bG (fi:av) (args:List AV):Bool:=
 match fi.mode with
 |0=>false
 |1=>hfL (args.map aE)
 |3=>hfL (args.map aE)
 |5=>hfL (args.map aE)
 |6=>hfL (args.map aE)
 |_=>hfL args&&hfL (args.map aE)
def pcA (tab:FuncId->Option av) (cb:CB) (f:FuncId) (args:List AV):Option PR:=
 match tab f with
 | some fi=>match fi.con with
   |some g=>g args
   |none=>if bG fi args then r9 fi.mode (gx tab cb fi (args.map aE) [])else none
 |none=>none
def icA (tab:FuncId->Option av) (cb:CB) (f:FuncId) (args:List AV) (H:ab):Option (Out×ab):=
 match tab f with
 | some fi=>if fi.con.isSome||bG fi args then none else match fi.nC with
   |some g=>g args H
   |none=>gx tab cb fi args H
 |none=>none
def iM (tm:List AV):List Nat->List AV->List AV
 |p::ps,v::vs=>iM (tm.set p v) ps vs
 |_,_=>tm
def ylA (cb:CB) (id:Nat) (args:List AV) (H:ab):Option (Out×ab):=
 match cc H id with
 | some (0,_,tm,ps,as,bd)=>
   if ps.length=args.length then
     match aN cb (some id) as {tm:=iM tm ps args,df:=[]} H with
     | some (.normal,fr1,H1)=>
       match cc H1 id with
       | some (0,pend,tm1,ps1,as1,bd1)=>
         match aN cb (some id) bd fr1 (H1.set id (.loop 1 pend tm1 ps1 as1 bd1))with
         | some (e,fr2,H2)=>
           match fr2.df,e,cc H2 id with
           |[],.normal,some (_,_,tm2,ps2,as2,bd2)=>some (.ret (.bool true),H2.set id (.loop 0 .normal tm2 ps2 as2 bd2))
           |[],.ret,some (_,_,tm2,ps2,as2,bd2)=>some (.ret (.bool false),H2.set id (.loop 2 .ret tm2 ps2 as2 bd2))
           |[],.exit j,some (_,_,tm2,ps2,as2,bd2)=>some (.ret (.bool false),H2.set id (.loop 2 (.exit j) tm2 ps2 as2 bd2))
           |[],.goto j,some (_,_,tm2,ps2,as2,bd2)=>some (.ret (.bool false),H2.set id (.loop 2 (.goto j) tm2 ps2 as2 bd2))
           |_,_,_=>none
         |none=>none
       |_=>none
     |_=>none
   else none
 |_=>none
def hZ (tab:FuncId->Option av) (f:FuncId):Bool:=
 match tab f with
 |some fi=>fi.mode==3||fi.mode==5
 |none=>false
def tl (tab:FuncId->Option av) (cb:CB):CB:=⟨pcA tab cb,icA tab cb,ylA cb,aN cb,hZ tab⟩
def cbs (tab:FuncId->Option av):Nat->CB
 |0=>⟨fun _ _=>none,fun _ _ _=>none,fun _ _ _=>none,fun _ _ _ _=>none,hZ tab⟩
 |n+1=>tl tab (cbs tab n)
end Go.Am
