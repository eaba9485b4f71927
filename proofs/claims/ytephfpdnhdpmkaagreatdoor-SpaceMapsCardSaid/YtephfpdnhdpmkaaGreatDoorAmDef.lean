/- THE ABSTRACT INTERPRETER, ITS DEFINITIONS: values without addresses (slices as lists of cells), a compiled form of a function's code, and a deterministic interpreter over it. Nothing is proved here. No condition. -/
import Derived.RangeFuncLeaves
import Derived.RecoverIn
import Derived.OrdersIn
import Derived.Below
import Derived.Maps.AppendAt
import Derived.Laws.StructEq
set_option linter.all false
namespace Go.Am
open Go
inductive Tk where
 |ro
 |z
 |e
 |own (g:Nat)
inductive AV where
 |bool (b:Bool)
 |int (k:IntKind) (n:Int)
 |str (s:ByteArray)
 |agg (cs:List AV)
 |tup (vs:List AV)
 |sl (sz n:Nat) (cs:List AV) (tk:Tk)
 |msl (sz id off n:Nat)
 |rsl (sz id n:Nat)
 |ptr (id off:Nat)
 |cL
 |bU (cs:List AV)
 |fn (f:FuncId) (caps:List AV)
 |bnd (f:FuncId) (first:List AV)
 |cO
 |iface (t:TypeId) (v:AV)
 |fI
 |mp (id:Nat)
 |fj
 |yld (id:Nat)
 |any
instance : Inhabited AV := ⟨.tup []⟩
def AV.flat:AV->List AV
 | .agg cs=>cs
 |v=>[v]
def AV.one:AV->Bool
 | .agg _=>false
 | .tup _=>false
 |_=>true
def aA:List AV->Bool
 |[]=>true
 |v::r=>v.one&&aA r
def Tk.isZ:Tk->Bool
 | .z=>true
 |_=>false
def Tk.empty:Tk->Bool
 | .z=>true
 | .e=>true
 |_=>false
def Tk.hf:Tk->Bool
 | .own _=>false
 |_=>true
mutual
def AV.hf:AV->Bool
 | .agg cs=>hfL cs
 | .tup vs=>hfL vs
 | .sl _ _ cs tk=>hfL cs&&tk.hf
 | .msl _ _ _ _=>false
 | .rsl _ _ _=>false
 | .ptr _ _=>false
 | .bU cs=>hfL cs
 | .fn _ cs=>hfL cs
 | .bnd _ cs=>hfL cs
 | .iface _ v=>AV.hf v
 | .mp _=>false
 | .yld _=>false
 |_=>true
def hfL:List AV->Bool
 |[]=>true
 |v::r=>AV.hf v&&hfL r
end
class dy where
 places:List String
 pD:List String:=[]
 rows:List String:=[]
 mz:Option (Nat×Array Value):=none
inductive X where
 |t (i:Nat)
 |c (v:AV)
def X.ev (tm:List AV):X->AV
 | .t i=>tm.getD i (.tup [])
 | .c v=>v
inductive EqK where
 |num
 |bool
 |iface
 |ptr
 |func
 |map
 |slice
 |str
 |struct (ks:List Nat)
inductive CvK where
 |int (k:IntKind)
 |same
 |s2b
 |b2s
inductive AOp where
 |mv (x:X)
 |pick (c a b:X)
 |alloc (zs:List AV)
 |box (x:X)
 |build (zs:List AV) (ps:List (Nat×Nat×X))
 |aX (sz len:Nat) (zs:List AV) (ps:List (Nat×Nat×X))
 |g8 (sz len:Nat) (zs:List AV) (ps:List (Nat×Nat×X))
 |mm (mx:Bool) (x y:X)
 |load (sz:Nat) (ag:Bool) (x:X)
 |store (sz:Nat) (a v:X)
 |fld (off:Nat) (x:X)
 |part (off sz:Nat) (ag:Bool) (x:X)
 |ixa (sz:Nat) (x i:X)
 |bn (n sz:Nat) (x i:X)
 |ixv (n sz:Nat) (ag:Bool) (x i:X)
 |ixs (x i:X)
 |bin (op:BinOp) (ek:EqK) (x y:X)
 |un (op:UnOp) (x:X)
 |conv (k:CvK) (x:X)
 |nu (t:TypeId) (x:X)
 |fO (f:FuncId) (caps:List X)
 |iU
 |lookup (kk:Nat) (zero:AV) (x i:X) (ok:Bool)
 |hO (kk:Nat) (x k v:X)
 |eV (t:TypeId) (zero:AV) (x:X) (ok:Bool)
 |ext (x:X) (i:Nat)
 |slice (sz:Nat) (x:X) (lo hi:Option X)
 |fm (x:X) (lo hi:Option X)
 |oq (sz:Nat) (x:X) (lo hi mx:Option X)
 |len (k:Nat) (x:X)
 |append (sz bytes:Nat) (x y:X)
 |iK (sz bytes:Nat) (x y:X)
 |eY (sz bytes:Nat) (x y:X)
 |br (f:FuncId) (args:List X)
 |jt (rw:Bool) (f:FuncId) (args:List X)
 |cf (x:X) (args:List X)
 |fy
 |panic (x:X)
 |dfr (x:X) (args:List X)
 |bf (x:X)
 |fM (sz bytes:Nat) (zs:List AV) (l c:X)
 |dp (sz bytes:Nat) (zs:List AV) (l c:X)
 |iT (f:FuncId) (first:List X)
 |rh (x c:X)
 |ue (sz bytes:Nat) (zs:List AV) (x n:X)
 |kj (n sz:Nat) (x:X) (lo hi:Option X)
 |mf (n:Nat) (x:X)
 |chk (lx sx:List X)
 |p7 (x:X)
 |vd (sz bytes:Nat) (x y:X)
 |tZ (x c:X)
 |clr (sz:Nat) (zs:List AV) (x:X)
 |cpy (sz:Nat) (x y:X)
 |lP (f:FuncId) (args:List X)
 |rb (x:X)
 |og (sz bytes:Nat) (x y:X)
 |iA (sz bytes:Nat) (zs:List AV) (x n:X)
 |oc (sz len:Nat) (zs:List AV) (ps:List (Nat×Nat×X))
def AOp.xs:AOp->List X
 | .mv x=>[x]
 | .pick c a b=>[c,a,b]
 | .alloc _=>[]
 | .box x=>[x]
 | .build _ ps=>ps.map (·.2.2)
 | .aX _ _ _ ps=>ps.map (·.2.2)
 | .g8 _ _ _ ps=>ps.map (·.2.2)
 | .mm _ x y=>[x,y]
 | .load _ _ x=>[x]
 | .store _ a v=>[a,v]
 | .fld _ x=>[x]
 | .part _ _ _ x=>[x]
 | .ixa _ x i=>[x,i]
 | .bn _ _ x i=>[x,i]
 | .ixv _ _ _ x i=>[x,i]
 | .ixs x i=>[x,i]
 | .bin _ _ x y=>[x,y]
 | .un _ x=>[x]
 | .conv _ x=>[x]
 | .nu _ x=>[x]
 | .fO _ caps=>caps
 | .iU=>[]
 | .lookup _ _ x i _=>[x,i]
 | .hO _ x k v=>[x,k,v]
 | .eV _ _ x _=>[x]
 | .ext x _=>[x]
 | .slice _ x lo hi=>x::(lo.toList++hi.toList)
 | .fm x lo hi=>x::(lo.toList++hi.toList)
 | .oq _ x lo hi mx=>x::(lo.toList++(hi.toList++mx.toList))
 | .len _ x=>[x]
 | .append _ _ x y=>[x,y]
 | .iK _ _ x y=>[x,y]
 | .eY _ _ x y=>[x,y]
 | .br _ args=>args
 | .jt _ _ args=>args
 | .cf x args=>x::args
 | .fy=>[]
 | .panic x=>[x]
 | .dfr x args=>x::args
 | .bf x=>[x]
 | .fM _ _ _ l c=>[l,c]
 | .dp _ _ _ l c=>[l,c]
 | .iT _ fs=>fs
 | .rh x c=>[x,c]
 | .ue _ _ _ x n=>[x,n]
 | .kj _ _ x lo hi=>x::(lo.toList++hi.toList)
 | .mf _ x=>[x]
 | .chk l s=>l++s
 | .p7 x=>[x]
 | .vd _ _ x y=>[x,y]
 | .tZ x c=>[x,c]
 | .clr _ _ x=>[x]
 | .cpy _ x y=>[x,y]
 | .lP _ xs=>xs
 | .rb x=>[x]
 | .og _ _ x y=>[x,y]
 | .iA _ _ _ x n=>[x,n]
 | .oc _ _ _ ps=>ps.map (·.2.2)
structure ai where
 dst:Option Nat
 op:AOp
 guard:Option (Nat×Bool)
abbrev qo (d:Nat) (o:AOp):ai:=⟨some d,o,none⟩
abbrev qe (o:AOp):ai:=⟨none,o,none⟩
abbrev qg (d:Nat) (o:AOp) (t:Nat) (b:Bool):ai:=⟨some d,o,some (t,b)⟩
abbrev qm (d i:Nat):ai:=⟨some d,.mv (.t i),none⟩
abbrev ql (d i:Nat):ai:=⟨some d,.load 1 false (.t i),none⟩
abbrev qf (d off i:Nat):ai:=⟨some d,.fld off (.t i),none⟩
abbrev qi (n:Int):X:= .c (.int .i64 n)
abbrev qu (n:Int):X:= .c (.int .u64 n)
abbrev qt:X:= .c (.bool true)
abbrev qz:X:= .c (.bool false)
abbrev qn (d:Nat) (o:BinOp) (x y:X):ai:=⟨some d,.bin o .num x y,none⟩
abbrev qL (d sz i:Nat):ai:=⟨some d,.load sz true (.t i),none⟩
abbrev qx (d i j:Nat):ai:=⟨some d,.ext (.t i) j,none⟩
abbrev qp (d c a b:Nat):ai:=⟨some d,.pick (.t c) (.t a) (.t b),none⟩
abbrev qk (d c:Nat) (x y:X):ai:=⟨some d,.pick (.t c) x y,none⟩
abbrev qc (d:Nat) (f:FuncId) (xs:List X):ai:=⟨some d,.br f xs,none⟩
abbrev qs (i:Nat) (x:X):ai:=⟨none,.store 1 (.t i) x,none⟩
def gZ:List X->List Nat
 |[]=>[]
 | .t i::r=>i::gZ r
 | .c _::r=>gZ r
def ai.reads (o:ai):List Nat:=
 match o.guard with
 |none=>gZ o.op.xs
 |some (t,_)=>t::gZ o.op.xs
def oM (x y:ai):Bool:=
 (match x.dst with
  |some d=> !(y.reads.contains d)&&y.dst !=some d
  |none=>true)&&
 (match y.dst with
  |some d=> !(x.reads.contains d)
  |none=>true)
inductive aH where
 |skip
 |region (ops:List ai)
 |drawn (pre tail:List ai)
 |seq (a b:aH)
 |cond (c:X) (a b:aH)
 |block (id:Nat) (c:aH)
 |loop (c:aH)
 |range (f:X) (ps:List Nat) (assign body:aH)
 |exit (id:Nat)
 |scope (c:aH)
 |b7 (w c:aH)
 |label (l:Nat)
 |goto (l:Nat)
 |ret
inductive ov where
 |tmp (t:Nat)
 |cell (t sz:Nat) (ag:Bool)
inductive PR where
 |plain (v:AV)
 |fresh (sz n:Nat) (cs:List AV)
 |ir (es:List (AV×AV))
 |pan (c:List (AV×Bool))
 |iw (v:AV)
inductive Ex where
 |normal
 |exit (id:Nat)
 |goto (l:Nat)
 |ret
 |panic (chain:List (AV×Bool))
inductive av where
 |cells (cs:List AV)
 |map (es:List (AV×AV))
 |tok (sz:Nat)
 |loop (st:Nat) (pend:Ex) (tm:List AV) (ps:List Nat) (assign body:aH)
 |gA
 |dead
 |raw (o:Obj)
inductive ADf where
 |call (f:FuncId) (args:List AV)
 |mark (id:Nat)
structure Fr where
 tm:List AV
 df:List ADf
inductive Out where
 |ret (v:AV)
 |pan (c:List (AV×Bool))
abbrev ab:=List av
structure an where
 np:Nat
 res:List ov
 body:aH
 mode:Nat
 con:Option (List AV->Option PR)
 mn:Option (List AV->ab->Option (Out×ab)):=none
def dJ (cs:List AV):List (Nat×Nat×AV)->Option (List AV)
 |[]=>some cs
 | (off,sz,v)::r=>
   if v.flat.length=sz/\off+sz<=cs.length then dJ (cs.take off++v.flat++cs.drop (off+sz)) r else none
def evP (tm:List AV):List (Nat×Nat×X)->List (Nat×Nat×AV)
 |[]=>[]
 |(o,s,x)::r=>(o,s,x.ev tm)::evP tm r
def dK (cs:List AV) (off sz:Nat) (ag:Bool):Option AV:=
 if ag then if off+sz<=cs.length then some (.agg ((cs.drop off).take sz))else none else cs[off]?
def bits (op:BinOp) (k:IntKind) (x y:Int):Option AV:=
 let a:=BitVec.ofInt k.bits x
 let b:=BitVec.ofInt k.bits y
 match op with
 | .and=>some (.int k (k.wrap (a&&& b).toNat))
 | .or=>some (.int k (k.wrap (a|||b).toNat))
 | .xor=>some (.int k (k.wrap (a^^^b).toNat))
 | .andNot=>some (.int k (k.wrap (a&&& ~~~b).toNat))
 |_=>none
def dB (op:BinOp) (k:IntKind) (a:Int) (k':IntKind) (b:Int):Option AV:=
 match op with
 | .shl=>if b<0 then none else some (.int k (k.wrap (a*2^(min b.toNat k.bits))))
 | .shr=>if b<0 then none else some (.int k (a.fdiv (2^(min b.toNat k.bits))))
 | .add=>if k=k' then some (.int k (k.wrap (a+b)))else none
 | .sub=>if k=k' then some (.int k (k.wrap (a-b)))else none
 | .mul=>if k=k' then some (.int k (k.wrap (a*b)))else none
 | .quo=>if k=k'/\b≠0 then some (.int k (k.wrap (a.tdiv b)))else none
 | .rem=>if k=k'/\b≠0 then some (.int k (a.tmod b))else none
 | .eql=>if k=k' then some (.bool (a==b))else none
 | .neq=>if k=k' then some (.bool (a !=b))else none
 | .lss=>if k=k' then some (.bool (decide (a<b)))else none
 | .leq=>if k=k' then some (.bool (decide (a<=b)))else none
 | .gtr=>if k=k' then some (.bool (decide (a>b)))else none
 | .geq=>if k=k' then some (.bool (decide (a≥b)))else none
 | .and=>if k=k' then bits .and k a b else none
 | .or=>if k=k' then bits .or k a b else none
 | .xor=>if k=k' then bits .xor k a b else none
 | .andNot=>if k=k' then bits .andNot k a b else none
def tU (op:BinOp) (a b:ByteArray):Option AV:=
 match op with
 | .add=>if a.size+b.size<=9223372036854775807 then some (.str (a++b))else none
 | .eql=>some (.bool (a.toList==b.toList))
 | .neq=>some (.bool (!(a.toList==b.toList)))
 | .lss=>some (.bool (Op.bytesLess a.toList b.toList))
 | .leq=>some (.bool (Op.bytesLess a.toList b.toList||a.toList==b.toList))
 | .gtr=>some (.bool (!(Op.bytesLess a.toList b.toList||a.toList==b.toList)))
 | .geq=>some (.bool (!(Op.bytesLess a.toList b.toList)))
 |_=>none
def bk:Nat->AV->AV->Option Bool
 |0,.int k a,.int k' b=>if k=k' then some (a==b)else none
 |1,.bool a,.bool b=>some (a==b)
 |2,.str a,.str b=>some (a==b)
 |_,_,_=>none
def aW:List Nat->List AV->List AV->Option Bool
 |[],[],[]=>some true
 | k::ks,x::xs,y::ys=>
   match bk k x y with
   |some true=>aW ks xs ys
   |some false=>some false
   |none=>none
 |_,_,_=>none
def eqV (ek:EqK) (x y:AV):Option Bool:=
 match ek,x,y with
 | .bool,.bool a,.bool b=>some (a==b)
 | .iface,.fI,.iface _ _=>some false
 | .iface,.iface _ _,.fI=>some false
 | .ptr,.cL,.cL=>some true
 | .ptr,.cL,.ptr _ _=>some false
 | .ptr,.ptr _ _,.cL=>some false
 | .ptr,.cL,.bU _=>some false
 | .ptr,.bU _,.cL=>some false
 | .func,.cO,.cO=>some true
 | .func,.cO,.fn _ _=>some false
 | .func,.fn _ _,.cO=>some false
 | .map,.fj,.fj=>some true
 | .map,.fj,.mp _=>some false
 | .map,.mp _,.fj=>some false
 | .slice,.sl _ _ _ .z,.sl _ _ _ tk=>some tk.isZ
 | .slice,.sl _ _ _ _,.sl _ _ _ .z=>some false
 | .slice,.msl _ _ _ _,.sl _ _ _ .z=>some false
 | .slice,.rsl _ _ _,.sl _ _ _ .z=>some false
 | .struct ks,.agg xs,.agg ys=>aW ks xs ys
 |_,_,_=>none
def uz:X->Bool
 | .c .fI=>true
 |_=>false
def bE (op:BinOp) (ek:EqK) (xo yo:X) (x y:AV):Option AV:=
 match x,y with
 | .int k a,.int k' b=>dB op k a k' b
 | .str a,.str b=>tU op a b
 | .fI,.fI=>
   match ek with
   | .iface=>if uz xo||uz yo then(match op with| .eql=>some (.bool true)| .neq=>some (.bool false)|_=>none)else none
   |_=>none
 | _,_=>
   match op with
   | .eql=>(eqV ek x y).map .bool
   | .neq=>(eqV ek x y).map fun b=> .bool (!b)
   |_=>none
def unV (op:UnOp) (x:AV):Option AV:=
 match op,x with
 | .not,.bool b=>some (.bool !b)
 | .neg,.int k n=>some (.int k (k.wrap (0-n)))
 | .xor,.int k n=>bits .xor k (if k.signed then-1 else k.max) n
 |_,_=>none
def cw (kk:Nat) (k:AV):List (AV×AV)->Nat->Option (Option (Nat×AV))
 |[],_=>some none
 | e::es,i=>
   match bk kk k e.1 with
   |some true=>some (some (i,e.2))
   |some false=>cw kk k es (i+1)
   |none=>none
def asNat (v:AV):Option Nat:=
 match v with
 | .int _ n=>if 0<=n then some n.toNat else none
 |_=>none
def bound (tm:List AV) (x:Option X) (d:Nat):Option Nat:=
 match x with
 |none=>some d
 |some x=>asNat (x.ev tm)
def KQ (b:UInt8):AV:= .int .u8 b.toNat
def jj (s:ByteArray):List AV:=s.data.toList.map KQ
def gO:List AV->Option (List UInt8)
 |[]=>some []
 | .int .u8 n::r=>(gO r).map (UInt8.ofNat n.toNat:: ·)
 |_=>none
def rA (c:UInt8):List UInt8->Option Nat
 |[]=>none
 |b::r=>if b==c then some 0 else(rA c r).map (· +1)
def K3:Option Nat->AV
 |some i=> .int .i64 i
 |none=> .int .i64 (-1)
def bX:Nat->List AV->List AV
 |0,_=>[]
 |n+1,l=>l++bX n l
def eo (sz bytes:Nat) (zs:List AV) (l c:AV):Option Nat:=
 match l,c with
 | .int _ n,.int _ m=>if n=m/\0<=n/\zs.length=sz/\aA zs=true/\n.toNat*bytes<=70368744177664/\n.toNat<=70368744177664 then some n.toNat else none
 |_,_=>none
def gR:AV->List AV->Option (FuncId×List AV)
 | .fn f caps,as=>some (f,as++caps)
 | .bnd f fs,as=>some (f,fs++as)
 |_,_=>none
def jR (id:Nat):List AV->Bool
 |[]=>true
 | .ptr id' _::r=>if id'=id then false else jR id r
 | .cL::_=>false
 |_::r=>jR id r
def ck:List AV->List AV->Bool
 |[],_=>true
 | .bU _::r,ss=>ck r ss
 | .ptr id _::r,ss=>if jR id ss then ck r ss else false
 |_::_,_=>false
def aT (o:AOp) (tm:List AV) (H:ab):Option AV:=
 match o with
 | .mv x=>some (x.ev tm)
 | .pick c a b=>match c.ev tm with
   | .bool t=>some (if t then a.ev tm else b.ev tm)
   |_=>none
 | .build zs ps=>(dJ zs (evP tm ps)).map .agg
 | .aX sz len zs ps=>match dJ zs (evP tm ps)with
   |some cs=>if aA cs&&cs.length==len*sz then some (.sl sz len cs (if len=0 then .e else .ro))else none
   |none=>none
 | .g8 sz len zs ps=>match dJ zs (evP tm ps)with
   |some cs=>if aA cs&&cs.length==len*sz then some (.sl sz len cs .e)else none
   |none=>none
 | .mm mx x y=>match x.ev tm,y.ev tm with
   | .int k a,.int _ b=>some (.int k (if mx then(if a<b then b else a)else(if b<a then b else a)))
   |_,_=>none
 | .load sz ag x=>match x.ev tm with
   | .ptr id off=>match H[id]? with
     |some (.cells cs)=>dK cs off sz ag
     |_=>none
   | .bU cs=>dK cs 0 sz ag
   |_=>none
 | .fld off x=>match x.ev tm with
   | .ptr id o=>some (.ptr id (o+off))
   | .bU cs=>some (.bU (cs.drop off))
   |_=>none
 | .part off sz ag x=>match x.ev tm with
   | .agg cs=>dK cs off sz ag
   |_=>none
 | .ixa sz x i=>match x.ev tm,i.ev tm with
   | .sl sz' n cs _,.int _ j=>if sz=sz'/\0<=j/\j<n then some (.bU (cs.drop (j.toNat*sz)))else none
   | .msl sz' id off n,.int _ j=>if sz=sz'/\0<=j/\j<n then some (.ptr id (off+j.toNat*sz))else none
   | .rsl sz' id n,.int _ j=>if sz=sz'/\0<=j/\j<n then some (.ptr id (j.toNat*sz))else none
   |_,_=>none
 | .bn n sz x i=>match x.ev tm,i.ev tm with
   | .ptr id off,.int _ j=>if 0<=j/\j<n then some (.ptr id (off+j.toNat*sz))else none
   | .bU cs,.int _ j=>if 0<=j/\j<n then some (.bU (cs.drop (j.toNat*sz)))else none
   |_,_=>none
 | .ixv n sz ag x i=>match x.ev tm,i.ev tm with
   | .agg cs,.int _ j=>if 0<=j/\j<n then dK cs (j.toNat*sz) sz ag else none
   |_,_=>none
 | .ixs x i=>match x.ev tm,i.ev tm with
   | .str s,.int _ j=>if 0<=j then(s[j.toNat]?).map fun b=> .int .u8 b.toNat else none
   |_,_=>none
 | .bin op ek x y=>bE op ek x y (x.ev tm) (y.ev tm)
 | .un op x=>unV op (x.ev tm)
 | .conv k x=>match k,x.ev tm with
   | .int k,.int _ n=>some (.int k (k.wrap n))
   | .same,.str s=>some (.str s)
   | .s2b,.str s=>if s.size<=70368744177664 then some (.sl 1 s.size (jj s) .ro)else none
   | .b2s,.sl sz n cs _=>if sz=1∨n=0 then(gO (cs.take n)).map fun l=> .str ⟨l.toArray⟩else none
   |_,_=>none
 | .nu t x=>some (.iface t (x.ev tm))
 | .chk lx sx=>if ck (lx.map (·.ev tm)) (sx.map (·.ev tm))then some (.tup [])else none
 | .p7 x=>if aA (x.ev tm).flat then some (.bU (x.ev tm).flat)else none
 | .vd sz bytes x y=>match x.ev tm,y.ev tm with
   | .sl sz' 0 [] .e,.sl sz'' m ds _=>
     if 0<sz/\m*bytes<=70368744177664/\m<=70368744177664/\m≠0/\sz''=sz/\m*sz<=ds.length/\aA (ds.take (m*sz))=true then some (.sl sz m (ds.take (m*sz)) .ro)
     else if m=0 then some (.sl sz' 0 [] .e)else none
   |_,_=>none
 | .fO f caps=>some (.fn f (caps.map (·.ev tm)))
 | .iT f fs=>some (.bnd f (fs.map (·.ev tm)))
 | .rh x c=>match x.ev tm,c.ev tm with
   | .str s,.int .u8 k=>some (K3 (rA (UInt8.ofNat k.toNat) s.data.toList))
   |_,_=>none
 | .tZ x c=>match x.ev tm,c.ev tm with
   | .str s,.int .u8 k=>some (.int .i64 (s.data.toList.count (UInt8.ofNat k.toNat):Nat))
   |_,_=>none
 | .fM sz bytes zs l c=>match eo sz bytes zs (l.ev tm) (c.ev tm)with
   |some n=>some (.sl sz n (bX n zs) .e)
   |none=>none
 | .lookup kk zero x i ok=>match x.ev tm with
   | .fj=>match bk kk (i.ev tm) (i.ev tm)with
     |some _=>some (if ok then .tup [zero,.bool false] else zero)
     |none=>none
   | .mp id=>match H[id]? with
     | some (.map es)=>match bk kk (i.ev tm) (i.ev tm),cw kk (i.ev tm) es 0 with
       |some _,some (some (_,v))=>some (if ok then .tup [v,.bool true] else v)
       |some _,some none=>some (if ok then .tup [zero,.bool false] else zero)
       |_,_=>none
     |_=>none
   |_=>none
 | .eV t zero x ok=>match x.ev tm with
   | .iface t' v=>if t'=t then some (if ok then .tup [v,.bool true] else v)else if ok then some (.tup [zero,.bool false])else none
   | .fI=>if ok then some (.tup [zero,.bool false])else none
   |_=>none
 | .ext x i=>match x.ev tm with
   | .tup vs=>vs[i]?
   |_=>none
 | .slice sz x lo hi=>match x.ev tm with
   | .sl sz' n cs tk=>match bound tm lo 0,bound tm hi n with
     | some l,some h=>
       if sz=sz'/\0<sz/\l<=h/\h*sz<=cs.length then
         some (if l=0/\h=n then .sl sz n cs tk else .sl sz (h-l) (cs.drop (l*sz)) .ro)
       else if tk.isZ=true/\l=0/\h=0 then some (.sl sz' n cs tk)else none
     |_,_=>none
   | .msl sz' id off n=>match bound tm lo 0,bound tm hi n with
     |some l,some h=>if sz=sz'/\0<sz/\l<=h/\h<=n then some (if l=h then .sl sz 0 [] .ro else .msl sz id (off+l*sz) (h-l))else none
     |_,_=>none
   |_=>none
 | .oq sz x lo hi mx=>match x.ev tm with
   | .sl sz' n cs tk=>match bound tm lo 0,bound tm hi n,bound tm mx n with
     | some l,some h,some m=>
       if sz=sz'/\0<sz/\l<=h/\h=m/\h*sz<=cs.length/\tk.isZ=false then
         some (.sl sz (h-l) ((cs.take (h*sz)).drop (l*sz)) .ro)
       else none
     |_,_,_=>none
   | .msl sz' id off n=>match bound tm lo 0,bound tm hi n,bound tm mx n with
     |some l,some h,some m=>if sz=sz'/\0<sz/\l<=h/\h=m/\h<=n then some (if l=h then .sl sz 0 [] .ro else .msl sz id (off+l*sz) (h-l))else none
     |_,_,_=>none
   |_=>none
 | .fm x lo hi=>match x.ev tm with
   | .str s=>match bound tm lo 0,bound tm hi s.size with
     |some l,some h=>if l<=h/\h<=s.size then some (.str (s.extract l h))else none
     |_,_=>none
   |_=>none
 | .kj n sz x lo hi=>match x.ev tm with
   | .ptr id off=>match bound tm lo 0,bound tm hi n with
     |some l,some h=>if l<=h/\h<=n then some (if l=h then .sl sz 0 [] .ro else .msl sz id (off+l*sz) (h-l))else none
     |_,_=>none
   | .bU cs=>match bound tm lo 0,bound tm hi n with
     |some l,some h=>if l<=h/\h<=n/\n*sz<=cs.length then some (if l=h then .sl sz 0 [] .ro else .sl sz (h-l) ((cs.take (n*sz)).drop (l*sz)) .ro)else none
     |_,_=>none
   |_=>none
 | .mf n x=>match x.ev tm with
   | .sl _ m cs _=>if 0<n/\n<=m then some (.bU cs)else none
   | .msl _ id off m=>if n<=m then some (.ptr id off)else none
   |_=>none
 | .len k x=>match k,x.ev tm with
   |0,.sl _ n _ _=>some (.int .i64 n)
   |0,.msl _ _ _ n=>some (.int .i64 n)
   |0,.rsl _ _ n=>some (.int .i64 n)
   |1,.str s=>some (.int .i64 s.size)
   |2,.fj=>some (.int .i64 0)
   | 2,.mp id=>match H[id]? with
     |some (.map es)=>some (.int .i64 es.length)
     |_=>none
   |_,_=>none
 | .bf x=>match x.ev tm with
   | .ptr id off=>some (.ptr id off)
   | .bU cs=>some (.bU cs)
   | .fn f cs=>some (.fn f cs)
   | .bnd f cs=>some (.bnd f cs)
   | .iface t v=>some (.iface t v)
   |_=>none
 |_=>none
inductive Nx where
 |val (v:AV)
 |skip
 |enter (f:FuncId) (args:List AV)
 |dO (rw:Bool) (f:FuncId) (args:List AV)
 |yield (id:Nat) (args:List AV)
 |pan (v:AV)
 |dfr (d:ADf)
 |fy
def rowOf (H:ab) (y:AV):AV:=
 match y with
 | .msl sz id off m=>match H[id]? with
   |some (.cells cs)=>if off+m*sz<=cs.length/\m≠0 then .sl sz m ((cs.drop off).take (m*sz)) .ro else y
   |_=>y
 |y=>y
def eW (sz bytes:Nat) (x y:AV) (H:ab):Option (Nx×ab):=
 match x,y with
   | .sl sz' n cs tk,.sl sz'' m ds _=>
     if 0<sz/\(n+m)*bytes<=70368744177664/\n+m<=70368744177664 then
       if m=0 then(match tk with
         | .own g=>if sz'=sz then some (.val (.sl sz' n cs (.own g)),H)else none
         | .z=>some (.val (.sl sz' n cs .z),H)
         | .e=>some (.val (.sl sz' n cs .e),H)
         | .ro=>none)
       else if sz''=sz/\m*sz<=ds.length/\aA (ds.take (m*sz))then(match tk with
         | .z=>if n=0 then some (.val (.sl sz m (ds.take (m*sz)) (.own H.length)),H++[.tok sz])else none
         | .e=>if sz'=sz/\cs.length=n*sz then some (.val (.sl sz (n+m) (cs++ds.take (m*sz)) (.own H.length)),H++[.tok sz])else none
         | .own g=>match H[g]? with
           |some (.tok sz3)=>if sz3=sz/\sz'=sz then some (.val (.sl sz (n+m) (cs++ds.take (m*sz)) (.own H.length)),H.set g .dead++[.tok sz])else none
           |_=>none
         | .ro=>none)
       else none
     else none
   |_,_=>none
def kA (sz bytes:Nat) (x y:AV) (H:ab):Option (Nx×ab):=
 match x,y with
 | .rsl sz' id n,.sl sz'' m ds _=>
   if 0<sz/\(n+m)*bytes<=70368744177664/\n+m<=70368744177664/\m≠0/\sz''=sz/\sz'=sz/\m*sz<=ds.length/\aA (ds.take (m*sz))=true then
     match H[id]? with
     |some (.cells cs)=>if cs.length=n*sz/\aA cs=true then some (.val (.rsl sz H.length (n+m)),H.set id .dead++[.cells (cs++ds.take (m*sz))])else none
     |_=>none
   else none
 | .sl sz' n cs tk,.sl sz'' m ds _=>
   if 0<sz/\m*bytes<=70368744177664/\m<=70368744177664/\m≠0/\n=0/\tk.empty=true/\sz''=sz/\m*sz<=ds.length/\aA (ds.take (m*sz))=true then
     some (.val (.rsl sz H.length m),H++[.cells (ds.take (m*sz))])
   else
   if 0<sz/\(n+m)*bytes<=70368744177664/\n+m<=70368744177664/\m≠0/\n≠0/\tk.empty=true/\sz'=sz/\cs.length=n*sz/\sz''=sz/\m*sz<=ds.length/\aA (ds.take (m*sz))=true then
     some (.val (.rsl sz H.length (n+m)),H++[.cells (cs++ds.take (m*sz))])
   else
   none
 |_,_=>none
def bI (o:AOp) (tm:List AV) (H:ab):Option (Nx×ab):=
 match o with
 | .alloc zs=>some (.val (.ptr H.length 0),H++[.cells zs])
 | .box x=>if aA (x.ev tm).flat then some (.val (.ptr H.length 0),H++[.cells (x.ev tm).flat])else none
 | .store sz a x=>match a.ev tm with
   | .ptr id off=>match H[id]? with
     | some (.cells cs)=>
       if(x.ev tm).flat.length=sz/\off+sz<=cs.length/\aA (x.ev tm).flat then
         some (.skip,H.set id (.cells (cs.take off++(x.ev tm).flat++cs.drop (off+sz))))
       else none
     |_=>none
   |_=>none
 | .clr sz zs x=>match x.ev tm with
   | .sl _ 0 _ _=>some (.val (.tup []),H)
   | .msl sz' id off n=>match H[id]? with
     | some (.cells cs)=>
       if sz'=sz/\zs.length=sz/\n≠0/\off+n*sz<=cs.length/\aA zs=true then
         some (.val (.tup []),H.set id (.cells (cs.take off++bX n zs++cs.drop (off+n*sz))))
       else none
     |_=>none
   |_=>none
 | .cpy sz x y=>match x.ev tm,rowOf H (y.ev tm)with
   | .msl sz' id off n,.sl sz'' m ds _=>match H[id]? with
     | some (.cells cs)=>
       if m=0 then some (.val (.int .i64 0),H)
       else if sz'=sz/\sz''=sz/\min m n*sz<=ds.length/\off+min m n*sz<=cs.length/\aA (ds.take (min m n*sz))=true then
         some (.val (.int .i64 (min m n:Nat)),H.set id (.cells (cs.take off++ds.take (min m n*sz)++cs.drop (off+min m n*sz))))
       else none
     |_=>none
   |_,_=>none
 | .iU=>some (.val (.mp H.length),H++[.map []])
 | .hO kk x k v=>match x.ev tm with
   | .mp id=>match H[id]? with
     | some (.map es)=>match bk kk (k.ev tm) (k.ev tm),cw kk (k.ev tm) es 0 with
       |some _,some (some (i,_))=>some (.skip,H.set id (.map (es.set i (k.ev tm,v.ev tm))))
       |some _,some none=>some (.skip,H.set id (.map (es++[(k.ev tm,v.ev tm)])))
       |_,_=>none
     |_=>none
   |_=>none
 | .append sz bytes x y=>eW sz bytes (x.ev tm) (rowOf H (y.ev tm)) H
 | .iK sz bytes x y=>match x.ev tm,y.ev tm with
   | .sl sz' n cs tk,.sl sz'' m ds _=>
     if 0<sz/\(n+m)*bytes<=70368744177664/\n+m<=70368744177664 then
       if m≠0/\sz''=sz/\m*sz<=ds.length/\aA (ds.take (m*sz))/\n=0/\tk.empty then some (.val (.msl sz H.length 0 m),H++[.cells (ds.take (m*sz))])
       else if m=0/\tk.empty then some (.val (.sl sz' n cs tk),H)else none
     else none
   |_,_=>none
 | .eY sz bytes x y=>kA sz bytes (x.ev tm) (y.ev tm) H
 | .br f args=>some (.enter f (args.map (·.ev tm)),H)
 | .jt rw f args=>some (.dO rw f (args.map (·.ev tm)),H)
 | .lP f args=>some (.dO false f (args.map (·.ev tm)),H)
 | .rb x=>if aA (x.ev tm).flat then some (.val (.ptr H.length 0),H++[.cells (x.ev tm).flat])else none
 | .cf x args=>match x.ev tm with
   | .fn f caps=>some (.enter f (args.map (·.ev tm)++caps),H)
   | .bnd f fs=>some (.enter f (fs++args.map (·.ev tm)),H)
   | .yld id=>some (.yield id (args.map (·.ev tm)),H)
   |_=>none
 | .fy=>some (.fy,H)
 | .panic x=>match x.ev tm with
   | .iface t v=>some (.pan (.iface t v),H)
   |_=>none
 | .dfr x args=>match x.ev tm with
   | .fn f caps=>some (.dfr (.call f (args.map (·.ev tm)++caps)),H)
   |_=>none
 | .dp sz bytes zs l c=>match eo sz bytes zs (l.ev tm) (c.ev tm)with
   |some n=>some (.val (.msl sz H.length 0 n),H++[.cells (bX n zs)])
   |none=>none
 | .oc sz len zs ps=>match dJ zs (evP tm ps)with
   |some cs=>if aA cs&&cs.length==len*sz then some (.val (.rsl sz H.length len),H++[.cells cs])else none
   |none=>none
 | .ue sz bytes zs x n=>match x.ev tm,eo sz bytes zs (n.ev tm) (n.ev tm)with
   | .sl sz' k cs (.own g),some m=>eW sz bytes (.sl sz' k cs (.own g)) (.sl sz m (bX m zs) .ro) H
   | .rsl sz' id k,some m=>kA sz bytes (.rsl sz' id k) (.sl sz m (bX m zs) .ro) H
   |_,_=>none
 |_=>none
structure CB where
 pc:FuncId->List AV->Option PR
 ic:FuncId->List AV->ab->Option (Out×ab)
 yl:Nat->List AV->ab->Option (Out×ab)
 run:Option Nat->aH->Fr->ab->Option (Ex×Fr×ab)
 cy:FuncId->Bool
def bV (tm:List AV) (d:Option Nat) (v:AV):List AV:=
 match d with
 |some d=>tm.set d v
 |none=>tm
def bC (tm:List AV) (g:Option (Nat×Bool)):Bool:=
 match g with
 |none=>true
 | some (t,b)=>match tm[t]? with
   |some (.bool b')=>b'==b
   |_=>false
def AV.iZ:AV->Bool
 | .bool _=>true
 | .int _ _=>true
 | .str _=>true
 |_=>false
def AV.z2:AV->Bool
 | .bool _=>true
 | .int _ _=>true
 | .str _=>true
 | .agg vs=>vs.all (·.iZ)
 |_=>false
def AV.bare:AV->Bool
 | .bool _=>true
 | .int _ _=>true
 | .str _=>true
 | .cL=>true
 | .cO=>true
 | .fI=>true
 | .fj=>true
 | .iface _ v=>v.iZ
 | .tup vs=>vs.all (·.z2)
 | .agg vs=>vs.all (·.iZ)
 | .sl _ 0 [] .z=>true
 |_=>false
def au:AV->AV
 | .sl sz n cs (.own _)=> .sl sz n cs .ro
 |v=>v
def bw (H:ab):Nat->AV->AV
 |0,v=>v
 | k+1,v=>
   match v with
   | .msl sz id off n=>match H[id]? with
     |some (.cells cs)=>if off+n*sz<=cs.length then .sl sz n (((cs.drop off).take (n*sz)).map (bw H k)) .ro else v
     |_=>v
   | .rsl sz id n=>match H[id]? with
     |some (.cells cs)=>if n*sz<=cs.length then .sl sz n ((cs.take (n*sz)).map (bw H k)) .ro else v
     |_=>v
   | .ptr id off=>match H[id]? with
     |some (.cells cs)=> .bU (((cs.drop off).map (bw H k)).map au)
     |_=>v
   | .agg cs=> .agg (cs.map (bw H k))
   |v=>v
def kS (cb:CB) (f:FuncId) (args:List AV) (H:ab):Option PR:=
 match cb.pc f (args.map (bw H 4))with
 |some (.plain v)=>if v.bare then some (.plain v)else none
 |some (.fresh sz n cs)=>if cs.all (·.iZ)then some (.fresh sz n cs)else none
 |some (.ir _)=>none
 |some (.pan c)=>if c.all (·.1.bare)then some (.pan c)else none
 |some (.iw v)=>some (.plain v)
 |none=>none
def pcx (cb:CB) (f:FuncId) (args:List AV) (H:ab):Option PR:=
 if cb.cy f then kS cb f args H else cb.pc f args
def eE (cb:CB) (rw:Bool) (f:FuncId) (args:List AV) (H:ab):Option (Out×ab):=
 match pcx cb f args H with
 |some (.plain v)=>some (.ret v,H)
 |some (.fresh sz n cs)=>if cs.all (·.iZ)&&cs.length==n*sz then some (.ret (if rw then .rsl sz H.length n else .msl sz H.length 0 n),H++[.cells cs])else none
 |some (.ir es)=>some (.ret (.mp H.length),H++[.map es])
 |some (.pan c)=>some (.pan c,H)
 |some (.iw _)=>none
 |none=>none
def dL (cb:CB) (f:FuncId) (args:List AV) (H:ab):Option (Out×ab):=
 match pcx cb f args H with
 |some (.plain v)=>some (.ret v,H)
 |some (.fresh sz n cs)=>some (.ret (.sl sz n cs (.own H.length)),H++[.tok sz])
 |some (.ir es)=>some (.ret (.mp H.length),H++[.map es])
 |some (.pan c)=>some (.pan c,H)
 |some (.iw _)=>none
 |none=>if cb.cy f then none else cb.ic f args H
def aU (cb:CB) (rd:Option Nat):List ai->Fr->ab->Option (Ex×Fr×ab)
 |[],fr,H=>some (.normal,fr,H)
 | o::rest,fr,H=>
   if bC fr.tm o.guard then
     match aT o.op fr.tm H with
     |some v=>aU cb rd rest {fr with tm:=bV fr.tm o.dst v} H
     | none=>
       match bI o.op fr.tm H with
       |some (.val v,H')=>aU cb rd rest {fr with tm:=bV fr.tm o.dst v} H'
       |some (.skip,H')=>aU cb rd rest {fr with tm:=bV fr.tm o.dst (.tup [])} H'
       | some (.enter f args,H')=>
         match dL cb f args H' with
         |some (.ret v,H'')=>aU cb rd rest {fr with tm:=bV fr.tm o.dst v} H''
         |some (.pan c,H'')=>some (.panic c,fr,H'')
         |none=>none
       | some (.dO rw f args,H')=>
         match eE cb rw f args H' with
         |some (.ret v,H'')=>aU cb rd rest {fr with tm:=bV fr.tm o.dst v} H''
         |some (.pan c,H'')=>some (.panic c,fr,H'')
         |none=>none
       | some (.yield id args,H')=>
         match cb.yl id args H' with
         |some (.ret v,H'')=>aU cb rd rest {fr with tm:=bV fr.tm o.dst v} H''
         |some (.pan c,H'')=>some (.panic c,fr,H'')
         |none=>none
       |some (.pan v,H')=>some (.panic [(v,false)],fr,H')
       |some (.dfr d,H')=>if rd.isSome then none else aU cb rd rest {tm:=bV fr.tm o.dst (.tup []),df:=d::fr.df} H'
       |_=>none
   else aU cb rd rest {fr with tm:=bV fr.tm o.dst (.tup [])} H
def kR (sz bytes:Nat) (x y:AV) (g:Nat):Option (AV×Option av):=
 match x,y with
 | .sl _ n _ tk,.sl sz'' m ds _=>
   if 0<sz/\m*bytes<=70368744177664/\m<=70368744177664/\m≠0/\n=0/\tk.empty=true/\sz''=sz/\m*sz<=ds.length/\aA (ds.take (m*sz))=true then
     some (.sl sz m (ds.take (m*sz)) (.own g),some (.tok sz))
   else none
 |_,_=>none
def Jq (sz bytes:Nat) (zs:List AV) (n:AV):Option (Nat×List AV):=
 match n with
 | .sl sz' m ds _=>if zs.isEmpty=true/\(m=0∨sz'=sz)/\m*sz<=ds.length/\aA (ds.take (m*sz))=true then some (m,ds.take (m*sz))else none
 | n=>match eo sz bytes zs n n with
   |some m=>if m≠0 then some (m,bX m zs)else none
   |none=>none
def nC (h sz bytes:Nat) (zs:List AV) (x n:AV) (G:ab) (g:Nat):Option (AV×Option av):=
 match x,Jq sz bytes zs n with
 | .sl sz' k cs (.own g0),some (m,ds)=>
   match G[g0]? with
   |some (.tok sz3)=>if h<=g0/\sz3=sz/\sz'=sz/\0<sz/\(k+m)*bytes<=70368744177664/\k+m<=70368744177664 then some (.sl sz (k+m) (cs++ds) (.own g),some (.tok sz))else none
   |_=>none
 |_,_=>none
def ry (h sz bytes:Nat) (zs:List AV) (x n:AV) (G:ab) (g:Nat):Option (AV×Option av):=
 match x with
 | .sl sz' k cs (.own g0)=>nC h sz bytes zs (.sl sz' k cs (.own g0)) n G g
 |x=>if zs.isEmpty=true then kR sz bytes x n g else none
def apX (h:Nat) (op:AOp) (tm:List AV) (G:ab) (g:Nat):Option (AV×Option av):=
 match op with
 | .og sz bytes x y=>kR sz bytes (x.ev tm) (y.ev tm) g
 | .iA sz bytes zs x n=>ry h sz bytes zs (x.ev tm) (n.ev tm) G g
 |_=>none
def bM (o:ai) (tm:List AV):Option Nat:=
 if bC tm o.guard then
   match o.op with
   | .iA _ _ _ x _=>match x.ev tm with
     | .sl _ _ _ (.own g0)=>some g0
     |_=>none
   |_=>none
 else none
def kx (h:Nat) (k:Option Nat) (e:List av):List av:=
 match k with
 |some g0=>e.set (g0-h) .dead
 |none=>e
def ap1 (cb:CB) (H G:ab) (o:ai) (tm:List AV) (g:Nat):Option (AV×Option av):=
 if bC tm o.guard then
   match aT o.op tm H with
   |some v=>some (v,none)
   | none=>
     match o.op with
     | .alloc zs=>some (.ptr g 0,some (.cells zs))
     | .lookup kk zero (.t i) k ok=>(aT (.lookup kk zero (.t i) k ok) tm G).map fun v=>(v,none)
     | .br f args=>
       match pcx cb f (args.map (·.ev tm)) H with
       |some (.plain v)=>some (v,none)
       |some (.fresh sz n cs)=>some (.sl sz n cs (.own g),some (.tok sz))
       |some (.ir es)=>some (.mp g,some (.map es))
       |_=>none
     | .cf x args=>
       match gR (x.ev tm) (args.map (·.ev tm))with
       | some (f,as)=>
         match pcx cb f as H with
         |some (.plain v)=>some (v,none)
         |some (.fresh sz n cs)=>some (.sl sz n cs (.own g),some (.tok sz))
         |some (.ir es)=>some (.mp g,some (.map es))
         |_=>none
       |none=>none
     | .lP f args=>
       match pcx cb f (args.map (·.ev tm)) H with
       |some (.fresh sz n cs)=>if cs.all (·.iZ)&&cs.length==n*sz then some (.msl sz g 0 n,some (.cells cs))else none
       |_=>none
     | .rb x=>if aA (x.ev tm).flat then some (.ptr g 0,some (.cells (x.ev tm).flat))else none
     |op=>apX H.length op tm G g
 else some (.tup [],none)
def iW (cb:CB) (H:ab):List ai->List AV->List av->Option (List AV×List av)
 |[],tm,e=>some (tm,e)
 | o::rest,tm,e=>
   match ap1 cb H (H++e) o tm (H.length+e.length)with
   |some (v,k)=>iW cb H rest (bV tm o.dst v) (kx H.length (bM o tm) (e++k.toList))
   |none=>none
def e7:aH->Nat->Option aH
 | .seq a b,l=>
   match e7 a l with
   |some rest=>some (.seq rest b)
   |none=>e7 b l
 | .label l',l=>if l'==l then some .skip else none
 |_,_=>none
def ca (H:ab) (id:Nat):Option (Nat×Ex×List AV×List Nat×aH×aH):=
 match H[id]? with
 |some (.loop st pend tm ps as bd)=>some (st,pend,tm,ps,as,bd)
 |_=>none
def Ex.jumps:Ex->Bool
 | .panic _=>false
 |_=>true
def aN (cb:CB) (rd:Option Nat):aH->Fr->ab->Option (Ex×Fr×ab)
 | .skip,fr,H=>some (.normal,fr,H)
 | .label _,fr,H=>some (.normal,fr,H)
 | .exit id,fr,H=>some (.exit id,fr,H)
 | .goto l,fr,H=>some (.goto l,fr,H)
 | .ret,fr,H=>some (.ret,fr,H)
 | .region ops,fr,H=>aU cb rd ops fr H
 | .drawn pre tail,fr,H=>
   match iW cb H pre fr.tm [] with
   |some (tm,e)=>aU cb rd tail {fr with tm:=tm} (H++e)
   |none=>none
 | .seq a b,fr,H=>
   match aN cb rd a fr H with
   |some (.normal,fr',H')=>aN cb rd b fr' H'
   |r=>r
 | .cond x a b,fr,H=>
   match x.ev fr.tm with
   | .bool true=>aN cb rd a fr H
   | .bool false=>aN cb rd b fr H
   |_=>none
 | .block id a,fr,H=>
   match aN cb rd a fr H with
   |some (.exit id',fr',H')=>if id'=id then some (.normal,fr',H')else some (.exit id',fr',H')
   |r=>r
 | .loop a,fr,H=>
   match aN cb rd a fr H with
   |some (.normal,fr',H')=>cb.run rd (.loop a) fr' H'
   |r=>r
 | .scope a,fr,H=>
   match aN cb rd a fr H with
   | some (.goto l,fr',H')=>
     match e7 a l with
     |some rest=>cb.run rd (.b7 a rest) fr' H'
     |none=>some (.goto l,fr',H')
   |r=>r
 | .b7 w a,fr,H=>
   match aN cb rd a fr H with
   | some (.goto l,fr',H')=>
     match e7 w l with
     |some rest=>cb.run rd (.b7 w rest) fr' H'
     |none=>some (.goto l,fr',H')
   |r=>r
 | .range x ps as bd,fr,H=>
   match (match rd with
     |none=>some (H.length+1,({fr with df:= .mark H.length::fr.df}:Fr),H++[.gA,.loop 0 .normal fr.tm ps as bd])
     | some l=>match ca H l with
       |some _=>some (H.length,fr,H++[.loop 0 .normal fr.tm ps as bd])
       |none=>none)with
   | some (id,fr1,H1)=>
     match x.ev fr.tm with
     | .fn f caps=>
       match cb.ic f (.yld id::caps) H1 with
       | some (.ret _,H2)=>
         match ca H2 id with
         | some (st,pend,tm,ps',as',bd')=>
           if st=1|| !pend.jumps then none else
             some (pend,fr1,H2.set id (.loop 3 pend tm ps' as' bd'))
         |none=>none
       |_=>none
     |_=>none
   |none=>none
inductive Mode where
 |returning
 |panicking (chain:List (AV×Bool))
def uc:Mode->Mode
 | .panicking ((_,true)::_)=> .returning
 |m=>m
def AF (u:Mode) (chain:List (AV×Bool)):Mode:=
 match u with
 | .panicking old=> .panicking (chain++old)
 |_=> .panicking chain
def kT (tm:List AV) (H:ab):List ov->Option (List AV)
 |[]=>some []
 | .tmp t::r=>(kT tm H r).map (tm.getD t (.tup []):: ·)
 | .cell t sz ag::r=>
   match tm.getD t (.tup [])with
   | .ptr id off=>
     match H[id]? with
     | some (.cells cs)=>
       match dK cs off sz ag,kT tm H r with
       |some v,some vs=>some (v::vs)
       |_,_=>none
     |_=>none
   |_=>none
def ae:List AV->AV
 |[v]=>v
 |vs=> .tup vs
def fr0 (np:Nat) (args:List AV):Fr:={tm:=args++List.replicate (np-args.length) (.tup []),df:=[]}
def cT (cb:CB):List ai->Fr->ab->Mode->Option (Ex×Fr×ab×Mode)
 |[],fr,H,u=>some (.normal,fr,H,u)
 | o::rest,fr,H,u=>
   if bC fr.tm o.guard then
     match aT o.op fr.tm H with
     |some v=>cT cb rest {fr with tm:=bV fr.tm o.dst v} H u
     | none=>
       match o.op with
       | .fy=>
         match u with
         | .panicking ((v,false)::older)=>cT cb rest {fr with tm:=bV fr.tm o.dst v} H (.panicking ((v,true)::older))
         |_=>cT cb rest {fr with tm:=bV fr.tm o.dst .fI} H u
       |_=>none
   else cT cb rest {fr with tm:=bV fr.tm o.dst (.tup [])} H u
def vy:List ai->Bool
 |[]=>false
 |o::r=>(match o.op with| .fy=>true|_=>false)||vy r
def cU (cb:CB):aH->Fr->ab->Mode->Option (Ex×Fr×ab×Mode)
 | .region ops,fr,H,u=>
   if vy ops then cT cb ops fr H u
   else match aN cb none (.region ops) fr H with
     |some (e,fr',H')=>some (e,fr',H',u)
     |none=>none
 | .seq a b,fr,H,u=>
   match cU cb a fr H u with
   |some (.normal,fr',H',u')=>cU cb b fr' H' u'
   |r=>r
 | c,fr,H,u=>
   match aN cb none c fr H with
   |some (e,fr',H')=>some (e,fr',H',u)
   |none=>none
def lS (cb:CB) (fi:an) (args:List AV) (H:ab) (u:Mode):Option (Out×ab×Mode):=
 match cU cb fi.body (fr0 fi.np args) H u with
 | some (e,fr',H',u')=>
   match fr'.df,e with
   |[],.normal|[],.ret=>(kT fr'.tm H' fi.res).map fun vs=>(.ret (ae vs),H',u')
   |[],.panic c=>some (.pan c,H',u')
   |_,_=>none
 |none=>none
def b6 (tab:FuncId->Option an) (cb:CB):List ADf->Mode->ab->Option (Mode×ab)
 |[],u,H=>some (u,H)
 | .mark id::ds,u,H=>
   match H[id]? with
   |some .gA=>b6 tab cb ds u (H.set id .dead)
   |_=>none
 | .call f args::ds,u,H=>
   match tab f with
   | some fi=>
     match lS cb fi args H u with
     |some (.ret _,H',u')=>b6 tab cb ds (uc u') H'
     |some (.pan c,H',u')=>b6 tab cb ds (AF u' c) H'
     |none=>none
   |none=>none
def fR (tab:FuncId->Option an) (cb:CB) (fi:an) (args:List AV) (H:ab):Option (Out×ab):=
 match aN cb none fi.body (fr0 fi.np args) H with
 | some (e,fr,H1)=>
   match (match e with| .normal| .ret=>some Mode.returning| .panic c=>some (Mode.panicking c)|_=>none)with
   | some u=>
     match b6 tab cb fr.df u H1 with
     |some (.returning,H2)=>(kT fr.tm H2 fi.res).map fun vs=>(.ret (ae vs),H2)
     |some (.panicking c,H2)=>some (.pan c,H2)
     |none=>none
   |none=>none
 |none=>none
def aC:AV->AV
 | .agg cs=> .agg (cs.map au)
 |v=>au v
def aI:AV->AV
 | .tup vs=> .tup (vs.map aC)
 | .agg cs=> .agg (cs.map au)
 |v=>v
def aB (r:Option (Out×ab)):Option PR:=
 match r with
 | some (.ret (.sl sz n cs (.own g)),H)=>
   match H[g]? with
   |some (.tok sz')=>if sz'=sz&&hfL cs then some (.fresh sz n cs)else none
   |_=>none
 | some (.ret (.msl sz id off n),H)=>
   match H[id]? with
   |some (.cells cs)=>if off+n*sz<=cs.length/\hfL cs=true then some (.plain (.sl sz n ((cs.drop off).take (n*sz)) .ro))else none
   |_=>none
 | some (.ret (.rsl sz id n),H)=>
   match H[id]? with
   |some (.cells cs)=>if cs.length=n*sz/\n≠0/\hfL cs=true then some (.fresh sz n cs)else none
   |_=>none
 | some (.ret (.tup [.msl sz id off n,v]),H)=>
   match H[id]? with
   |some (.cells cs)=>if off+n*sz<=cs.length/\hfL cs=true/\v.hf=true then some (.plain (.tup [.sl sz n ((cs.drop off).take (n*sz)) .ro,v]))else none
   |_=>none
 | some (.ret (.tup [.rsl sz id n,v]),H)=>
   match H[id]? with
   |some (.cells cs)=>if n*sz<=cs.length/\hfL cs=true/\v.hf=true then some (.plain (.tup [.sl sz n (cs.take (n*sz)) .ro,v]))else none
   |_=>none
 | some (.ret (.mp id),H)=>
   match H[id]? with
   |some (.map es)=>if hfL (es.map (·.1))=true/\hfL (es.map (·.2))=true then some (.ir es)else none
   |_=>none
 |some (.ret v,_)=>if(aI v).hf then some (.plain (aI v))else none
 |some (.pan c,_)=>if hfL (c.map (·.1))then some (.pan c)else none
 |none=>none
def zr {α β:Type} (f:α->Option β):List α->Option (List β)
 |[]=>some []
 | x::r=>match f x,zr f r with
   |some y,some ys=>some (y::ys)
   |_,_=>none
def qE (H:ab) (v:AV):Option AV:=
 match v with
 | .sl sz n cs (.own g)=>match H[g]? with
   |some (.tok sz')=>if sz'=sz/\cs.all (·.iZ)=true then some (.sl sz n cs .ro)else none
   |_=>none
 | .sl sz 0 [] .z=>some (.sl sz 0 [] .z)
 | .sl _ _ _ _=>some .any
 | .rsl sz id n=>match H[id]? with
   |some (.cells cs)=>if n*sz<=cs.length/\(cs.take (n*sz)).all (·.iZ)=true then some (.sl sz n (cs.take (n*sz)) .ro)else none
   |_=>none
 | .msl sz id off n=>match H[id]? with
   |some (.cells cs)=>if off+n*sz<=cs.length/\((cs.drop off).take (n*sz)).all (·.iZ)=true then some (.sl sz n ((cs.drop off).take (n*sz)) .ro)else none
   |_=>none
 |v=>if v.iZ then some v else none
def xu (H:ab) (v:AV):Option AV:=
 match v with
 | .agg cs=>(zr (qE H) cs).map .agg
 |v=>qE H v
def CC (H:ab) (v:AV):Option AV:=
 match v with
 | .tup vs=>(zr (xu H) vs).map .tup
 |v=>xu H v
def pP (r:Option (Out×ab)):Option PR:=
 match r with
 |some (.ret v,H)=>(CC H v).map .iw
 |some (.pan c,_)=>if hfL (c.map (·.1))then some (.pan c)else none
 |none=>none
def eX:AV->AV
 | .sl sz n cs tk=>au (.sl sz n (cs.map au) tk)
 |v=>v
def zY:AV->AV
 | .agg cs=> .agg (cs.map eX)
 |v=>eX v
def oe (H:ab):AV->AV
 | .tup vs=> .tup ((vs.map (bw H 4)).map zY)
 |v=>zY (bw H 4 v)
def ef (r:Option (Out×ab)):Option PR:=
 match r with
 |some (.ret v,H)=>if(oe H v).hf then some (.plain (oe H v))else none
 |some (.pan c,_)=>if hfL (c.map (·.1))then some (.pan c)else none
 |none=>none
def oj (m:Nat) (r:Option (Out×ab)):Option PR:=
 if m=5 then pP r else
 if m=6 then ef r else
 aB r
theorem r8 (m:Nat):oj m none=none:=by
 unfold oj
 repeat' split
 all_goals rfl
def bF (fi:an) (args:List AV):Bool:=
 match fi.mode with
 |0=>false
 |1=>hfL (args.map aC)
 |3=>hfL (args.map aC)
 |5=>hfL (args.map aC)
 |6=>hfL (args.map aC)
 |_=>hfL args&&hfL (args.map aC)
def pcA (tab:FuncId->Option an) (cb:CB) (f:FuncId) (args:List AV):Option PR:=
 match tab f with
 | some fi=>match fi.con with
   |some g=>g args
   |none=>if bF fi args then oj fi.mode (fR tab cb fi (args.map aC) [])else none
 |none=>none
def icA (tab:FuncId->Option an) (cb:CB) (f:FuncId) (args:List AV) (H:ab):Option (Out×ab):=
 match tab f with
 | some fi=>if fi.con.isSome||bF fi args then none else match fi.mn with
   |some g=>g args H
   |none=>fR tab cb fi args H
 |none=>none
def ij (tm:List AV):List Nat->List AV->List AV
 |p::ps,v::vs=>ij (tm.set p v) ps vs
 |_,_=>tm
def ylA (cb:CB) (id:Nat) (args:List AV) (H:ab):Option (Out×ab):=
 match ca H id with
 | some (0,_,tm,ps,as,bd)=>
   if ps.length=args.length then
     match aN cb (some id) as {tm:=ij tm ps args,df:=[]} H with
     | some (.normal,fr1,H1)=>
       match ca H1 id with
       | some (0,pend,tm1,ps1,as1,bd1)=>
         match aN cb (some id) bd fr1 (H1.set id (.loop 1 pend tm1 ps1 as1 bd1))with
         | some (e,fr2,H2)=>
           match fr2.df,e,ca H2 id with
           |[],.normal,some (_,_,tm2,ps2,as2,bd2)=>some (.ret (.bool true),H2.set id (.loop 0 .normal tm2 ps2 as2 bd2))
           |[],.ret,some (_,_,tm2,ps2,as2,bd2)=>some (.ret (.bool false),H2.set id (.loop 2 .ret tm2 ps2 as2 bd2))
           |[],.exit j,some (_,_,tm2,ps2,as2,bd2)=>some (.ret (.bool false),H2.set id (.loop 2 (.exit j) tm2 ps2 as2 bd2))
           |[],.goto j,some (_,_,tm2,ps2,as2,bd2)=>some (.ret (.bool false),H2.set id (.loop 2 (.goto j) tm2 ps2 as2 bd2))
           |_,_,_=>none
         |none=>none
       |_=>none
     |_=>none
   else none
 |_=>none
def gP (tab:FuncId->Option an) (f:FuncId):Bool:=
 match tab f with
 |some fi=>fi.mode==3||fi.mode==5
 |none=>false
def s9 (tab:FuncId->Option an) (cb:CB):CB:=⟨pcA tab cb,icA tab cb,ylA cb,aN cb,gP tab⟩
def cbs (tab:FuncId->Option an):Nat->CB
 |0=>⟨fun _ _=>none,fun _ _ _=>none,fun _ _ _=>none,fun _ _ _ _=>none,gP tab⟩
 |n+1=>s9 tab (cbs tab n)
end Go.Am
