/- THE COMPILER from the model's code into the abstract interpreter's: types and sizes are looked up here, once; an operation that it does not know is refused. Nothing is proved here. No condition. -/
import Derived.Test.YtephfpdnhdpmkaaGreatDoorAmDef
set_option linter.all false
namespace Go.Am
open Go
def zu:Value->Option AV
 | .bool b=>some (.bool b)
 | .int k n=>some (.int k n)
 | .string s=>some (.str s)
 | .pointer none=>some .cL
 | .slice none 0 0=>some (.sl 0 0 [] .z)
 | .map none=>some .fj
 | .nilFunc=>some .cO
 | .nilIface=>some .fI
 |_=>none
def cK {α β:Type} (f:α->Option β):List α->Option (List β)
 |[]=>some []
 | x::r=>match f x,cK f r with
   |some y,some ys=>some (y::ys)
   |_,_=>none
def ofC:Value->Option AV
 | .agg cs=>(cK zu cs.toList).map .agg
 | .tuple vs=>if vs.size=0 then some (.tup [])else none
 |v=>zu v
def cX:Operand->Option X
 | .tmp t=>some (.t t)
 | .const v=>(ofC v).map .c
 | .func f=>some (.c (.fn f []))
 | .global _=>none
variable [dy]
variable (P:Program)
def e9 (t:TypeId):Option Nat:=(P.info? t).map (·.size)
def OX (t:TypeId):Option Nat:=(P.info? t).map (·.bytes)
def xT (t:TypeId):Option Bool:=
 match P.underlying t with
 |some (.struct _)=>some true
 |some (.array _ _)=>some true
 |some _=>some false
 |none=>none
def zeroOf (t:TypeId):Option AV:=
 match P.info? t with
 | some i=>match i.zero with
   |some z=>if z.cells.size=i.size then ofC z else none
   |none=>none
 |none=>none
def iH (t:TypeId):Option TypeId:=
 match P.underlying t with
 |some (.slice e)=>some e
 |_=>none
def Jj (t:TypeId):Bool:=
 match P.underlying t with
 |some (.int .u8)=>true
 |_=>false
def kindOf (t:TypeId):Option Nat:=
 match P.underlying t with
 |some (.int _)=>some 0
 |some .bool=>some 1
 |some .string=>some 2
 |_=>none
def fT:List Field->Nat->Option (List Nat)
 |[],_=>some []
 | f::r,k=>
   if f.name≠ "_" /\f.offset=k then
     match kindOf P f.type,fT r (k+1)with
     |some kd,some ks=>some (kd::ks)
     |_,_=>none
   else none
def kB (t:TypeId):Option (List Nat):=
 match kindOf P t with
 |some kd=>some [kd]
 | none=>match P.underlying t with
   | some (.struct fs)=>match fT P fs.toList 0 with
     |some ks=>if P.stoodInHeld t=false/\e9 P t=some ks.length then some ks else none
     |none=>none
   | some (.array n e)=>match kindOf P e with
     |some kd=>if e9 P e=some 1/\e9 P t=some n then some (List.replicate n kd)else none
     |none=>none
   |_=>none
def dX:List Field->Nat->Option (List Nat)
 |[],_=>some []
 | f::r,k=>
   if f.name≠ "_" /\f.offset=k then
     match kB P f.type with
     |some ks=>(dX r (k+ks.length)).map (ks++ ·)
     |none=>none
   else none
def zQ (t:TypeId):Option EqK:=
 match P.underlying t with
 |some (.int _)=>some .num
 |some .string=>some .str
 |some .bool=>some .bool
 |some (.interface _)=>some .iface
 |some (.pointer _)=>some .ptr
 |some (.func _ _ _)=>some .func
 |some (.map _ _)=>some .map
 |some (.slice _)=>some .slice
 |some (.struct fs)=>if P.stoodInHeld t||P.eqGuardType P.depth t then none else(dX P fs.toList 0).map .struct
 | some (.array n e)=>match kindOf P e with
   |some kd=>if e9 P e=some 1/\P.eqGuardType P.depth t=false then some (.struct (List.replicate n kd))else none
   |none=>none
 |_=>none
def parts (ps:List (Nat×Operand)) (place:Nat->Option (Nat×Nat)):Option (List (Nat×Nat×X)):=
 cK (fun(p:Nat×Operand)=>match place p.1,cX p.2 with
   |some (off,sz),some x=>some (off,sz,x)
   |_,_=>none) ps
def xM (x:Option Operand):Option (Option X):=
 match x with
 |none=>some none
 |some x=>(cX x).map some
def vn (fn:Func):Option Nat:=
 if fn.body.isNone&&(fn.name== "internal/bytealg.IndexByteString" &&(Extern.findNext fn).isNone)then some 0
 else if fn.body.isNone&&(fn.name== "internal/bytealg.CountString" &&(Extern.findNext fn).isNone)then some 1 else none
def uf (k:Nat) (xs:List X):Option AOp:=
 match k,xs with
 |0,[x,c]=>some (.rh x c)
 |1,[x,c]=>some (.tZ x c)
 |_,_=>none
def cc (c:Call) (th rw fu hw:Bool):Option AOp:=
 match c.callee with
 | .value (.func f)=>match (P.funcs[f]?).bind vn with
   |some k=>(cK cX c.args.toList).bind (uf k)
   |none=>(cK cX c.args.toList).map (if hw then .lP f else if rw&& !th then .jt true f else if th&& !rw then .jt false f else .br f)
 | .value f=>match cX f,cK cX c.args.toList with
   |some f,some as=>some (.cf f as)
   |_,_=>none
 | .builtin .len=>match c.args.toList,c.argTypes.toList with
   | [x],[t]=>match P.underlying t,cX x with
     |some (.array n _),some _=>some (.mv (.c (.int .i64 n)))
     |some .string,some x=>some (.len 1 x)
     |some (.slice _),some x=>some (.len 0 x)
     |some (.map _ _),some x=>some (.len 2 x)
     |_,_=>none
   |_,_=>none
 | .builtin .append=>match c.args.toList,c.argTypes.toList with
   | [x,y],[t,u]=>if t=u then(match iH P t with
     | some e=>match P.info? e,zeroOf P e,cX x,cX y with
       | some i,some _,some x,some y=>some (
         if th&&rw&&fu then .iA i.size i.bytes [] x y else
         if th&&rw then .og i.size i.bytes x y else
         if rw then .eY i.size i.bytes x y else
         .append i.size i.bytes x y)
       |_,_,_,_=>none
     |none=>none)else(match iH P t,P.underlying u with
     | some e,some (.int _)=>match P.info? e,zeroOf P e,cX x,cX y with
       |some i,some z,some x,some y=>some (if th&&rw then .iA i.size i.bytes z.flat x y else .ue i.size i.bytes z.flat x y)
       |_,_,_,_=>none
     |_,_=>none)
   |_,_=>none
 | .builtin .copy=>match c.args.toList,c.argTypes.toList with
   | [x,y],[t,u]=>if t=u then(match iH P t with
     | some e=>match P.info? e,cX x,cX y with
       |some i,some x,some y=>some (.cpy i.size x y)
       |_,_,_=>none
     |none=>none)else none
   |_,_=>none
 | .builtin .min=>match c.args.toList with
   | [x,y]=>match cX x,cX y with
     |some x,some y=>some (.mm false x y)
     |_,_=>none
   |_=>none
 | .builtin .max=>match c.args.toList with
   | [x,y]=>match cX x,cX y with
     |some x,some y=>some (.mm true x y)
     |_,_=>none
   |_=>none
 | .builtin .recover=>if c.args.size=0 then some .fy else none
 |_=>none
def Nc (t:TypeId):Bool:=
 match P.underlying t with
 |some (.array _ _)=>true
 |_=>false
def NL (o:Oper):Bool:=
 dy.pD.contains o.pos||(dy.places.contains o.pos&&match o.dst with
   |some d=>dy.pD.contains (o.pos++ "@" ++Nat.repr d)
   |none=>false)
def cOp (o:Oper):Option AOp:=
 match o.op with
 | .move x=>(cX x).map .mv
 | .assign x=>(cX x).map .mv
 | .pick c a b=>match cX c,cX a,cX b with
   |some c,some a,some b=>some (.pick c a b)
   |_,_,_=>none
 | .alloc t=>match zeroOf P t with
   |some z=>if aA z.flat then some (.alloc z.flat)else none
   |none=>none
 | .box t x=>(cX x).map fun x=>if dy.places.contains (o.pos++ "^")then .rb x else if(dy.pD.contains o.pos&&Nc P t)||dy.pD.contains (o.pos++ "&")then .p7 x else .box x
 | .build t ps=>match P.underlying t,zeroOf P t with
   | some (.struct fs),some z=>match fs.toList.mapM (fun f=>(P.info? f.type).map fun i=>(f.offset,i.size))with
     |some places=>(parts ps.toList (places[·]?)).map (.build z.flat)
     |none=>none
   | some (.array _ e),some z=>match e9 P e with
     |some s=>(parts ps.toList (fun i=>some (i*s,s))).map (.build z.flat)
     |none=>none
   |_,_=>none
 | .buildSlice t len ps=>match iH P t with
   | some e=>match e9 P e,zeroOf P e with
     |some s,some z=>if 0<s/\len*s<=16777216 then(parts ps.toList (fun i=>some (i*s,s))).map (if dy.rows.contains (o.pos++ "*")then .oc s len (bX len z.flat)else if dy.pD.contains o.pos||dy.pD.contains (o.pos++ "+")then .g8 s len (bX len z.flat)else .aX s len (bX len z.flat))else none
     |_,_=>none
   |none=>none
 | .load t a=>match e9 P t,xT P t,cX a with
   |some s,some ag,some a=>if ag||s==1 then some (.load s ag a)else none
   |_,_,_=>none
 | .store t a x=>match e9 P t,cX a,cX x with
   |some s,some a,some x=>some (.store s a x)
   |_,_,_=>none
 | .nilCheck x=>(cX x).map .bf
 | .binOp op t x y _=>match zQ P t,cX x,cX y with
   |some k,some x,some y=>some (.bin op k x y)
   |_,_,_=>none
 | .unOp op _ x=>(cX x).map (.un op)
 | .convert s d x=>match P.underlying s,P.underlying d,cX x with
   |some (.int _),some (.int k),some x=>some (.conv (.int k) x)
   |some .string,some .string,some x=>some (.conv .same x)
   |some .string,some (.slice e),some x=>if Jj P e then some (.conv .s2b x)else none
   |some (.slice e),some .string,some x=>if Jj P e&&e9 P e==some 1 then some (.conv .b2s x)else none
   |_,_,_=>none
 | .makeInterface t x=>match P.underlying t with
   |some (.interface _)=>none
   |some _=>(cX x).map (.nu t)
   |none=>none
 | .makeFunc (.func f) first caps=>if first.size=0 then(cK cX caps.toList).map (.fO f)else if caps.size=0 then(cK cX first.toList).map (.iT f)else none
 | .makeSlice t l c=>match iH P t,cX l,cX c with
   | some e,some l,some c=>match P.info? e,zeroOf P e with
     |some i,some z=>some (if dy.places.contains (o.pos++ "!")then .dp i.size i.bytes z.flat l c else .fM i.size i.bytes z.flat l c)
     |_,_=>none
   |_,_,_=>none
 | .makeMap _ none=>some .iU
 | .slice t x lo hi none=>match P.underlying t,cX x,xM lo,xM hi with
   |some (.slice e),some x,some lo,some hi=>(e9 P e).map fun s=> .slice s x lo hi
   |some .string,some x,some lo,some hi=>some (.fm x lo hi)
   |some (.array n e),some x,some lo,some hi=>(e9 P e).map fun s=> .kj n s x lo hi
   |_,_,_,_=>none
 | .slice t x lo (some hi) (some mx)=>match P.underlying t,cX x,xM lo,cX hi,cX mx with
   |some (.slice e),some x,some lo,some hi,some mx=>(e9 P e).map fun s=> .oq s x lo (some hi) (some mx)
   |_,_,_,_,_=>none
 | .sliceToArrayPointer t x=>match P.underlying t,cX x with
   |some (.array n _),some x=>some (.mf n x)
   |_,_=>none
 | .fieldAddr t x f=>match P.underlying t,cX x with
   | some (.struct fs),some x=>match fs[f]? with
     |some fd=>if(e9 P fd.type).getD 0=0 then none else some (.fld fd.offset x)
     |none=>none
   |_,_=>none
 | .field t x f=>match P.underlying t,cX x with
   | some (.struct fs),some x=>match fs[f]? with
     | some fd=>match e9 P fd.type,xT P fd.type with
       |some s,some ag=>some (.part fd.offset s ag x)
       |_,_=>none
     |none=>none
   |_,_=>none
 | .indexAddr t x i=>match P.underlying t,cX x,cX i with
   |some (.slice e),some x,some i=>(e9 P e).map fun s=> .ixa s x i
   |some (.array n e),some x,some i=>(e9 P e).map fun s=> .bn n s x i
   |_,_,_=>none
 | .index t x i=>match P.underlying t,cX x,cX i with
   | some (.array n e),some x,some i=>match e9 P e,xT P e with
     |some s,some ag=>some (.ixv n s ag x i)
     |_,_=>none
   |some .string,some x,some i=>some (.ixs x i)
   |_,_,_=>none
 | .lookup t x i ok=>match P.underlying t,cX x,cX i with
   | some (.map k e),some x,some i=>match kindOf P k,zeroOf P e with
     |some kk,some z=>some (.lookup kk z x i ok)
     |_,_=>none
   |_,_,_=>none
 | .mapUpdate t m k x=>match P.underlying t,cX m,cX k,cX x with
   |some (.map kt _),some m,some k,some x=>(kindOf P kt).map fun kk=> .hO kk m k x
   |_,_,_,_=>none
 | .insert t m k x=>match P.underlying t,cX m,cX k,cX x with
   |some (.map kt _),some m,some k,some x=>(kindOf P kt).map fun kk=> .hO kk m k x
   |_,_,_,_=>none
 | .typeAssert x _ t ok=>match P.underlying t,cX x with
   |some (.interface _),_=>none
   |some _,some x=>(zeroOf P t).map fun z=> .eV t z x ok
   |_,_=>none
 | .extract x i=>(cX x).map fun x=> .ext x i
 | .call c=>cc P c (dy.places.contains o.pos) (dy.rows.contains o.pos) (NL o) (dy.places.contains (o.pos++ "^"))
 | .defer c=>match c.callee with
   | .value f=>match cX f,cK cX c.args.toList with
     |some f,some as=>some (.dfr f as)
     |_,_=>none
   |_=>none
 | .panic x=>(cX x).map .panic
 |_=>none
def calm:AOp->Bool
 | .box _=>false
 | .store _ _ _=>false
 | .iU=>false
 | .hO _ _ _ _=>false
 | .append _ _ _ _=>false
 | .iK _ _ _ _=>false
 | .eY _ _ _ _=>false
 | .jt _ _ _=>false
 | .fy=>false
 | .panic _=>false
 | .dfr _ _=>false
 | .dp _ _ _ _ _=>false
 | .ue _ _ _ _ _=>false
 | .clr _ _ _=>false
 | .cpy _ _ _=>false
 | .oc _ _ _ _=>false
 |_=>true
def AOp.still:AOp->Bool
 | .mv _=>true
 | .pick .. =>true
 | .build .. =>true
 | .mm .. =>true
 | .fld .. =>true
 | .part .. =>true
 | .ixa .. =>true
 | .bn .. =>true
 | .ixv .. =>true
 | .ixs .. =>true
 | .bin .. =>true
 | .un .. =>true
 | .conv .. =>true
 | .nu .. =>true
 | .fO .. =>true
 | .iT .. =>true
 | .eV .. =>true
 | .ext .. =>true
 | .slice .. =>true
 | .fm .. =>true
 | .oq .. =>true
 | .bf .. =>true
 | .len k _=>k !=2
 |_=>false
def AOp.quiet:AOp->Bool
 | .store .. =>true
 | .append .. =>true
 |o=>o.still
def dE (ops:Array Oper) (o:Oper):Option ai:=
 match cOp P o with
 |none=>none
 | some op=>
   match o.guard with
   |none=>some ⟨o.dst,op,none⟩
   | some (j,b)=>match (ops[j]?).bind (·.dst)with
     |some t=>some ⟨o.dst,op,some (t,b)⟩
     |none=>none
def C4 {α:Type} (n:Nat) (k:Nat->α):α:=
 match n with
 |0=>k 0
 |m+1=>k (m+1)
def yv (acc:List Nat):List Edge->Nat->Nat
 |[],s=>s
 |e::r,s=>yv acc r (if Region.binds .any e then s|||2^e.on|||acc.getD e.on 0 else s)
def kX:List Oper->List Nat->List Nat
 |[],acc=>acc
 |o::r,acc=>C4 (yv acc o.after.toList 0) fun m=>kX r (acc++[m])
def jJ (b:List Nat):Nat->Nat
 |0=>0
 |n+1=>if(List.range n).all (fun i=>(b.getD n 0).testBit i)then jJ b n else n+1
def AOp.ldX:AOp->List X
 | .load _ _ x=>[x]
 |_=>[]
def AOp.stX:AOp->List X
 | .store _ a _=>[a]
 |_=>[]
def Ml (os:List ai) (b:List Nat) (s:Nat):List Nat:=
 (List.range s).filter fun i=>((os[i]?).map fun o=> !o.op.ldX.isEmpty).getD false&&(List.range os.length).any fun j=>decide (s<=j)&& !(b.getD j 0).testBit i
def zn (os:List ai) (fs:List Nat):List X:=fs.flatMap fun i=>((os[i]?).map fun o=>o.op.ldX).getD []
def Fa (os:List ai) (b:List Nat) (s:Nat) (fs:List Nat):List X:=
 (List.range os.length).flatMap fun j=>if decide (s<=j)&&fs.any (fun i=> !(b.getD j 0).testBit i)then((os[j]?).map fun o=>o.op.stX).getD [] else []
def zL (os:List ai) (s:Nat) (fs:List Nat) (lx sx:List X):Bool:=
 (fs.all fun i=>match os[i]? with
   | some o=>match o.op with
     | .load _ _ (.t k)=>(os.drop i).all fun z=>z.dst !=some k
     |_=>false
   |none=>false)&&
 (os.drop s).all fun o=>match o.dst with
   |some d=> !(gZ (lx++sx)).contains d
   |none=>true
def D9 (os:List ai) (s:Nat) (fs:List Nat) (i j:Nat):Bool:=
 match os[i]?,os[j]? with
 |some x,some y=>oM x y&&(decide (j<s)||(decide (i<s)&&(x.op.still||fs.contains i)&&y.op.quiet))
 |_,_=>false
def k7 (ops:Array Oper) (os:List ai) (b:List Nat) (s:Nat) (fs:List Nat):Bool:=
 (List.range ops.size).all fun j=>
   ((ops[j]?).map fun o=>o.after.toList.all fun e=> !Region.binds .any e||e.on<j).getD true&&
   (List.range j).all fun i=>(b.getD j 0).testBit i||D9 os s fs i j
def jo:List ai->Nat
 |[]=>0
 |o::r=>if calm o.op then jo r+1 else 0
def gH (ops:Array Oper) (draw:Bool):Option aH:=
 match cK (dE P ops) ops.toList with
 |none=>none
 | some os=>
   if !draw then some (.region os)
   else
     let b:=kX ops.toList []
     let s:=jJ b ops.size
     if P.follows .mixedOrders&&k7 ops os b s []&&(os.take s).all (fun o=>calm o.op)then some (.drawn (os.take s) (os.drop s))
     else
       let s:=jo os
       if P.follows .mixedOrders&&k7 ops os b s []&&(os.take s).all (fun o=>calm o.op)then some (.drawn (os.take s) (os.drop s))
       else
         let fs:=Ml os b s
         let lx:=zn os fs
         let sx:=Fa os b s fs
         if P.follows .mixedOrders&&k7 ops os b s fs&&(os.take s).all (fun o=>calm o.op)&&zL os s fs lx sx then some (.drawn (os.take s) (⟨none,.chk lx sx,none⟩::os.drop s))
         else if P.follows .mixedOrders&&k7 ops os b s fs&&(os.take s).all (fun o=>calm o.op)&&zL os s fs lx [.c .cL] then some (.drawn (os.take s) (⟨none,.chk lx [.c .cL],none⟩::os.drop s))else none
def jr (σ:Nat->Nat) (o:Oper):Oper:={o with after:=o.after.map (fun e=>{e with on:=σ e.on}),guard:=o.guard.map fun g=>(σ g.1,g.2)}
def D5 (os:List ai) (b:List Nat):List Nat:=
 let cl:=fun i=>((os[i]?).map fun o=>calm o.op).getD false
 let free:=fun i=>cl i&&(List.range os.length).all fun j=> !(b.getD i 0).testBit j||cl j
 (List.range os.length).filter free++(List.range os.length).filter fun i=> !free i
def nI (order:List Nat) (n i:Nat):Nat:=if i<n then order.idxOf i else i
def EG (order:List Nat) (n:Nat):Bool:=
 decide (order.length=n)&&((List.range n).all fun i=>decide (nI order n i<n)&&order[nI order n i]? ==some i)&&(List.range n).all fun j=>match order[j]? with
   |some i=>decide (i<n)&&nI order n i==j
   |none=>false
def Bc (order:List Nat) (ops:Array Oper):Array Oper:=(order.map fun i=>jr (nI order ops.size) (ops.getD i default)).toArray
def fK (ops:Array Oper) (draw:Bool):Option aH:=
 match gH P ops draw with
 |some a=>some a
 | none=>
   if draw then
     match cK (dE P ops) ops.toList with
     |none=>none
     | some os=>
       if EG (D5 os (kX ops.toList [])) ops.size then gH P (Bc (D5 os (kX ops.toList [])) ops) true else none
   else none
theorem kg {ops:Array Oper} {ac:aH} (h:gH P ops true=some ac):∃pre tail,ac= .drawn pre tail:=by
 unfold gH at h;split at h
 . cases h
 . simp only[Bool.not_true,Bool.false_eq_true,if_false]at h;split at h
   . cases h;exact⟨_,_,rfl⟩
   . split at h
     . cases h;exact⟨_,_,rfl⟩
     . split at h
       . cases h;exact⟨_,_,rfl⟩
       . split at h
         . cases h;exact⟨_,_,rfl⟩
         . cases h
theorem iL {ops:Array Oper} {ac:aH} (h:fK P ops true=some ac):∃pre tail,ac= .drawn pre tail:=by
 unfold fK at h;split at h
 . rename_i a h0;cases h;exact kg P h0
 . simp only[if_true]at h;split at h
   . cases h
   . split at h
     . exact kg P h
     . cases h
theorem gW {ops:Array Oper} {ac:aH} (h:fK P ops false=some ac):∃os,cK (dE P ops) ops.toList=some os/\ac= .region os:=by
 unfold fK at h;split at h
 . rename_i a h0;cases h;unfold gH at h0;split at h0
   . cases h0
   . rename_i os hos;simp only[Bool.not_false,if_true]at h0;cases h0;exact⟨os,hos,rfl⟩
 . simp at h
def stuck:aH:= .cond (.c .cO) .skip .skip
def bq:Code->Option aH
 | .skip=>some .skip
 | .region _ ops draw=>some ((fK P ops draw).getD stuck)
 | .seq a b=>match bq a,bq b with
   |some a,some b=>some (.seq a b)
   |_,_=>none
 | .cond c a b=>match cX c,bq a,bq b with
   |some c,some a,some b=>some (.cond c a b)
   |_,_,_=>none
 | .block id c=>(bq c).map (.block id)
 | .loop c=>(bq c).map .loop
 | .rangeFunc f ps a b=>match cX f,bq a,bq b with
   |some f,some a,some b=>some (.range f ps.toList a b)
   |_,_,_=>none
 | .exit id=>some (.exit id)
 | .scope c=>(bq c).map .scope
 | .label l=>some (.label l)
 | .goto l=>some (.goto l)
 | .ret=>some .ret
 | .refuse _=>none
def DC (r:ResultVar):Option ov:=
 match r with
 | .tmp t=>some (.tmp t)
 | .cell t ty=>match e9 P ty,xT P ty with
   |some s,some ag=>if ag||s==1 then some (.cell t s ag)else none
   |_,_=>none
def qV (fn:Func) (mode:Nat):Option an:=
 match fn.body with
 | some c=>match bq P c,cK (DC P) fn.results.toList with
   |some c,some rs=>if fn.name== "runtime.NumGoroutine" then none else some ⟨fn.ntmps,rs,c,mode,none,none⟩
   |_,_=>none
 |none=>none
end Go.Am
