/- THE INTERPRETER ONCE MORE, for the kernel to run: each branch is a constant of its own, so that a step makes small terms; and it is the same. No condition. -/
import Derived.Test.YtephfpdnhdpmkaaGreatDoorAmLim
set_option linter.all false
namespace Go.Am
open Go
noncomputable section
def NW (x:X) (tm:List AV) (H:ab):Option AV:=
 some (x.ev tm)
def KX (c:X) (a:X) (b:X) (tm:List AV) (H:ab):Option AV:=
 match c.ev tm with
   | .bool t=>some (if t then a.ev tm else b.ev tm)
   |_=>none
def Ee (zs:List AV) (ps:List (Nat×Nat×X)) (tm:List AV) (H:ab):Option AV:=
 (dY zs (evP tm ps)).map .agg
def C5 (sz:Nat) (len:Nat) (zs:List AV) (ps:List (Nat×Nat×X)) (tm:List AV) (H:ab):Option AV:=
 match dY zs (evP tm ps)with
   |some cs=>if au cs&&cs.length==len*sz then some (.sl sz len cs (if len=0 then .e else .ro))else none
   |none=>none
def Di (sz:Nat) (len:Nat) (zs:List AV) (ps:List (Nat×Nat×X)) (tm:List AV) (H:ab):Option AV:=
 match dY zs (evP tm ps)with
   |some cs=>if au cs&&cs.length==len*sz then some (.sl sz len cs .e)else none
   |none=>none
def NO (mx:Bool) (x:X) (y:X) (tm:List AV) (H:ab):Option AV:=
 match x.ev tm,y.ev tm with
   | .int k a,.int _ b=>some (.int k (if mx then(if a<b then b else a)else(if b<a then b else a)))
   |_,_=>none
def Iv (sz:Nat) (ag:Bool) (x:X) (tm:List AV) (H:ab):Option AV:=
 match x.ev tm with
   | .ptr id off=>match H[id]? with
     |some (.cells cs)=>dZ cs off sz ag
     |_=>none
   | .bX cs=>dZ cs 0 sz ag
   |_=>none
def No (off:Nat) (x:X) (tm:List AV) (H:ab):Option AV:=
 match x.ev tm with
   | .ptr id o=>some (.ptr id (o+off))
   | .bX cs=>some (.bX (cs.drop off))
   |_=>none
def IH (off:Nat) (sz:Nat) (ag:Bool) (x:X) (tm:List AV) (H:ab):Option AV:=
 match x.ev tm with
   | .agg cs=>dZ cs off sz ag
   |_=>none
def Mx (sz:Nat) (x:X) (i:X) (tm:List AV) (H:ab):Option AV:=
 match x.ev tm,i.ev tm with
   | .sl sz' n cs _,.int _ j=>if sz=sz'/\0<=j/\j<n then some (.bX (cs.drop (j.toNat*sz)))else none
   | .msl sz' id off n,.int _ j=>if sz=sz'/\0<=j/\j<n then some (.ptr id (off+j.toNat*sz))else none
   | .rsl sz' id n,.int _ j=>if sz=sz'/\0<=j/\j<n then some (.ptr id (j.toNat*sz))else none
   |_,_=>none
def Dz (n:Nat) (sz:Nat) (x:X) (i:X) (tm:List AV) (H:ab):Option AV:=
 match x.ev tm,i.ev tm with
   | .ptr id off,.int _ j=>if 0<=j/\j<n then some (.ptr id (off+j.toNat*sz))else none
   | .bX cs,.int _ j=>if 0<=j/\j<n then some (.bX (cs.drop (j.toNat*sz)))else none
   |_,_=>none
def Mm (n:Nat) (sz:Nat) (ag:Bool) (x:X) (i:X) (tm:List AV) (H:ab):Option AV:=
 match x.ev tm,i.ev tm with
   | .agg cs,.int _ j=>if 0<=j/\j<n then dZ cs (j.toNat*sz) sz ag else none
   |_,_=>none
def ME (x:X) (i:X) (tm:List AV) (H:ab):Option AV:=
 match x.ev tm,i.ev tm with
   | .str s,.int _ j=>if 0<=j then(s[j.toNat]?).map fun b=> .int .u8 b.toNat else none
   |_,_=>none
def LL (op:BinOp) (ek:EqK) (x:X) (y:X) (tm:List AV) (H:ab):Option AV:=
 bD op ek x y (x.ev tm) (y.ev tm)
def NU (op:UnOp) (x:X) (tm:List AV) (H:ab):Option AV:=
 unV op (x.ev tm)
def K2 (k:CvK) (x:X) (tm:List AV) (H:ab):Option AV:=
 match k,x.ev tm with
   | .int k,.int _ n=>some (.int k (k.wrap n))
   | .same,.str s=>some (.str s)
   | .s2b,.str s=>if s.size<=70368744177664 then some (.sl 1 s.size (jD s) .ro)else none
   | .b2s,.sl sz n cs _=>if sz=1∨n=0 then(ij (cs.take n)).map fun l=> .str ⟨l.toArray⟩else none
   |_,_=>none
def Kg (t:TypeId) (x:X) (tm:List AV) (H:ab):Option AV:=
 some (.iface t (x.ev tm))
def LH (lx:List X) (sx:List X) (tm:List AV) (H:ab):Option AV:=
 if cy (lx.map (·.ev tm)) (sx.map (·.ev tm))then some (.tup [])else none
def Il (x:X) (tm:List AV) (H:ab):Option AV:=
 if au (x.ev tm).flat then some (.bX (x.ev tm).flat)else none
def IS (sz:Nat) (bytes:Nat) (x:X) (y:X) (tm:List AV) (H:ab):Option AV:=
 match x.ev tm,y.ev tm with
   | .sl sz' 0 [] .e,.sl sz'' m ds _=>
     if 0<sz/\m*bytes<=70368744177664/\m<=70368744177664/\m≠0/\sz''=sz/\m*sz<=ds.length/\au (ds.take (m*sz))=true then some (.sl sz m (ds.take (m*sz)) .ro)
     else if m=0 then some (.sl sz' 0 [] .e)else none
   |_,_=>none
def Jz (f:FuncId) (caps:List X) (tm:List AV) (H:ab):Option AV:=
 some (.fn f (caps.map (·.ev tm)))
def Gu (f:FuncId) (fs:List X) (tm:List AV) (H:ab):Option AV:=
 some (.bnd f (fs.map (·.ev tm)))
def JD (x:X) (c:X) (tm:List AV) (H:ab):Option AV:=
 match x.ev tm,c.ev tm with
   | .str s,.int .u8 k=>some (MP (rW (UInt8.ofNat k.toNat) s.data.toList))
   |_,_=>none
def KQ (x:X) (c:X) (tm:List AV) (H:ab):Option AV:=
 match x.ev tm,c.ev tm with
   | .str s,.int .u8 k=>some (.int .i64 (s.data.toList.count (UInt8.ofNat k.toNat):Nat))
   |_,_=>none
def zy (sz:Nat) (bytes:Nat) (zs:List AV) (l:X) (c:X) (tm:List AV) (H:ab):Option AV:=
 match gh sz bytes zs (l.ev tm) (c.ev tm)with
   |some n=>some (.sl sz n (cc n zs) .e)
   |none=>none
def CV (kk:Nat) (zero:AV) (x:X) (i:X) (ok:Bool) (tm:List AV) (H:ab):Option AV:=
 match x.ev tm with
   | .fj=>match bn kk (i.ev tm) (i.ev tm)with
     |some _=>some (if ok then .tup [zero,.bool false] else zero)
     |none=>none
   | .mp id=>match H[id]? with
     | some (.map es)=>match bn kk (i.ev tm) (i.ev tm),cG kk (i.ev tm) es 0 with
       |some _,some (some (_,v))=>some (if ok then .tup [v,.bool true] else v)
       |some _,some none=>some (if ok then .tup [zero,.bool false] else zero)
       |_,_=>none
     |_=>none
   |_=>none
def zr (t:TypeId) (zero:AV) (x:X) (ok:Bool) (tm:List AV) (H:ab):Option AV:=
 match x.ev tm with
   | .iface t' v=>if t'=t then some (if ok then .tup [v,.bool true] else v)else if ok then some (.tup [zero,.bool false])else none
   | .fO=>if ok then some (.tup [zero,.bool false])else none
   |_=>none
def MI (x:X) (i:Nat) (tm:List AV) (H:ab):Option AV:=
 match x.ev tm with
   | .tup vs=>vs[i]?
   |_=>none
def HT (sz:Nat) (x:X) (lo:Option X) (hi:Option X) (tm:List AV) (H:ab):Option AV:=
 match x.ev tm with
   | .sl sz' n cs tk=>match bound tm lo 0,bound tm hi n with
     | some l,some h=>
       if sz=sz'/\0<sz/\l<=h/\h*sz<=cs.length then
         some (if l=0/\h=n then .sl sz n cs tk else .sl sz (h-l) (cs.drop (l*sz)) .ro)
       else if tk.isZ=true/\l=0/\h=0 then some (.sl sz' n cs tk)else none
     |_,_=>none
   | .msl sz' id off n=>match bound tm lo 0,bound tm hi n with
     |some l,some h=>if sz=sz'/\0<sz/\l<=h/\h<=n then some (if l=h then .sl sz 0 [] .ro else .msl sz id (off+l*sz) (h-l))else none
     |_,_=>none
   |_=>none
def I6 (sz:Nat) (x:X) (lo:Option X) (hi:Option X) (mx:Option X) (tm:List AV) (H:ab):Option AV:=
 match x.ev tm with
   | .sl sz' n cs tk=>match bound tm lo 0,bound tm hi n,bound tm mx n with
     | some l,some h,some m=>
       if sz=sz'/\0<sz/\l<=h/\h=m/\h*sz<=cs.length/\tk.isZ=false then
         some (.sl sz (h-l) ((cs.take (h*sz)).drop (l*sz)) .ro)
       else none
     |_,_,_=>none
   | .msl sz' id off n=>match bound tm lo 0,bound tm hi n,bound tm mx n with
     |some l,some h,some m=>if sz=sz'/\0<sz/\l<=h/\h=m/\h<=n then some (if l=h then .sl sz 0 [] .ro else .msl sz id (off+l*sz) (h-l))else none
     |_,_,_=>none
   |_=>none
def FF (x:X) (lo:Option X) (hi:Option X) (tm:List AV) (H:ab):Option AV:=
 match x.ev tm with
   | .str s=>match bound tm lo 0,bound tm hi s.size with
     |some l,some h=>if l<=h/\h<=s.size then some (.str (s.extract l h))else none
     |_,_=>none
   |_=>none
def Ed (n:Nat) (sz:Nat) (x:X) (lo:Option X) (hi:Option X) (tm:List AV) (H:ab):Option AV:=
 match x.ev tm with
   | .ptr id off=>match bound tm lo 0,bound tm hi n with
     |some l,some h=>if l<=h/\h<=n then some (if l=h then .sl sz 0 [] .ro else .msl sz id (off+l*sz) (h-l))else none
     |_,_=>none
   | .bX cs=>match bound tm lo 0,bound tm hi n with
     |some l,some h=>if l<=h/\h<=n/\n*sz<=cs.length then some (if l=h then .sl sz 0 [] .ro else .sl sz (h-l) ((cs.take (n*sz)).drop (l*sz)) .ro)else none
     |_,_=>none
   |_=>none
def Hf (n:Nat) (x:X) (tm:List AV) (H:ab):Option AV:=
 match x.ev tm with
   | .sl _ m cs _=>if 0<n/\n<=m then some (.bX cs)else none
   | .msl _ id off m=>if n<=m then some (.ptr id off)else none
   |_=>none
def LU (k:Nat) (x:X) (tm:List AV) (H:ab):Option AV:=
 match k,x.ev tm with
   |0,.sl _ n _ _=>some (.int .i64 n)
   |0,.msl _ _ _ n=>some (.int .i64 n)
   |0,.rsl _ _ n=>some (.int .i64 n)
   |1,.str s=>some (.int .i64 s.size)
   |2,.fj=>some (.int .i64 0)
   | 2,.mp id=>match H[id]? with
     |some (.map es)=>some (.int .i64 es.length)
     |_=>none
   |_,_=>none
def D3 (x:X) (tm:List AV) (H:ab):Option AV:=
 match x.ev tm with
   | .ptr id off=>some (.ptr id off)
   | .bX cs=>some (.bX cs)
   | .fn f cs=>some (.fn f cs)
   | .bnd f cs=>some (.bnd f cs)
   | .iface t v=>some (.iface t v)
   |_=>none
def DC (_:List AV) (_:List AV) (_:ab):Option AV:=none
def Nb (_:X) (_:List AV) (_:ab):Option AV:=none
def Gj (_:Nat) (_:X) (_:X) (_:List AV) (_:ab):Option AV:=none
def EB (_:List AV) (_:ab):Option AV:=none
def HI (_:Nat) (_:X) (_:X) (_:X) (_:List AV) (_:ab):Option AV:=none
def Cb (_:Nat) (_:Nat) (_:X) (_:X) (_:List AV) (_:ab):Option AV:=none
def zO (_:Nat) (_:Nat) (_:X) (_:X) (_:List AV) (_:ab):Option AV:=none
def y9 (_:Nat) (_:Nat) (_:X) (_:X) (_:List AV) (_:ab):Option AV:=none
def Hy (_:FuncId) (_:List X) (_:List AV) (_:ab):Option AV:=none
def Ep (_:Bool) (_:FuncId) (_:List X) (_:List AV) (_:ab):Option AV:=none
def HX (_:X) (_:List X) (_:List AV) (_:ab):Option AV:=none
def DE (_:List AV) (_:ab):Option AV:=none
def Hw (_:X) (_:List AV) (_:ab):Option AV:=none
def LP (_:X) (_:List X) (_:List AV) (_:ab):Option AV:=none
def xx (_:Nat) (_:Nat) (_:List AV) (_:X) (_:X) (_:List AV) (_:ab):Option AV:=none
def Jk (_:Nat) (_:Nat) (_:List AV) (_:X) (_:X) (_:List AV) (_:ab):Option AV:=none
def L4 (_:Nat) (_:List AV) (_:X) (_:List AV) (_:ab):Option AV:=none
def Mf (_:Nat) (_:X) (_:X) (_:List AV) (_:ab):Option AV:=none
def Du (_:FuncId) (_:List X) (_:List AV) (_:ab):Option AV:=none
def II (_:X) (_:List AV) (_:ab):Option AV:=none
def K0 (_:Nat) (_:Nat) (_:X) (_:X) (_:List AV) (_:ab):Option AV:=none
def J0 (_:Nat) (_:Nat) (_:List AV) (_:X) (_:X) (_:List AV) (_:ab):Option AV:=none
def Ga (_:Nat) (_:Nat) (_:List AV) (_:List (Nat×Nat×X)) (_:List AV) (_:ab):Option AV:=none
def Gc (o:AOp):List AV->ab->Option AV:=
 AOp.casesOn (motive:=fun _=>List AV->ab->Option AV) o NW KX DC Nb Ee C5 Di NO Iv Gj No IH Mx Dz Mm ME LL NU K2 Kg Jz EB CV HI zr MI HT FF I6 LU Cb zO y9 Hy Ep HX DE Hw LP D3 zy xx Gu JD Jk Ed Hf LH Il IS KQ L4 Mf Du II K0 J0 Ga
theorem yz (o:AOp) (tm:List AV) (H:ab):Gc o tm H=aS o tm H:=by cases o<;>rfl
def En (zs:List AV) (tm:List AV) (H:ab):Option (Nx×ab):=
 some (.val (.ptr H.length 0),H++[.cells zs])
def Mp (x:X) (tm:List AV) (H:ab):Option (Nx×ab):=
 if au (x.ev tm).flat then some (.val (.ptr H.length 0),H++[.cells (x.ev tm).flat])else none
def GW (sz:Nat) (a:X) (x:X) (tm:List AV) (H:ab):Option (Nx×ab):=
 match a.ev tm with
   | .ptr id off=>match H[id]? with
     | some (.cells cs)=>
       if(x.ev tm).flat.length=sz/\off+sz<=cs.length/\au (x.ev tm).flat then
         some (.skip,H.set id (.cells (cs.take off++(x.ev tm).flat++cs.drop (off+sz))))
       else none
     |_=>none
   |_=>none
def Nf (sz:Nat) (zs:List AV) (x:X) (tm:List AV) (H:ab):Option (Nx×ab):=
 match x.ev tm with
   | .sl _ 0 _ _=>some (.val (.tup []),H)
   | .msl sz' id off n=>match H[id]? with
     | some (.cells cs)=>
       if sz'=sz/\zs.length=sz/\n≠0/\off+n*sz<=cs.length/\au zs=true then
         some (.val (.tup []),H.set id (.cells (cs.take off++cc n zs++cs.drop (off+n*sz))))
       else none
     |_=>none
   |_=>none
def M7 (sz:Nat) (x:X) (y:X) (tm:List AV) (H:ab):Option (Nx×ab):=
 match x.ev tm,rowOf H (y.ev tm)with
   | .msl sz' id off n,.sl sz'' m ds _=>match H[id]? with
     | some (.cells cs)=>
       if m=0 then some (.val (.int .i64 0),H)
       else if sz'=sz/\sz''=sz/\min m n*sz<=ds.length/\off+min m n*sz<=cs.length/\au (ds.take (min m n*sz))=true then
         some (.val (.int .i64 (min m n:Nat)),H.set id (.cells (cs.take off++ds.take (min m n*sz)++cs.drop (off+min m n*sz))))
       else none
     |_=>none
   |_,_=>none
def Hu (tm:List AV) (H:ab):Option (Nx×ab):=
 some (.val (.mp H.length),H++[.map []])
def D8 (kk:Nat) (x:X) (k:X) (v:X) (tm:List AV) (H:ab):Option (Nx×ab):=
 match x.ev tm with
   | .mp id=>match H[id]? with
     | some (.map es)=>match bn kk (k.ev tm) (k.ev tm),cG kk (k.ev tm) es 0 with
       |some _,some (some (i,_))=>some (.skip,H.set id (.map (es.set i (k.ev tm,v.ev tm))))
       |some _,some none=>some (.skip,H.set id (.map (es++[(k.ev tm,v.ev tm)])))
       |_,_=>none
     |_=>none
   |_=>none
def Cz (sz:Nat) (bytes:Nat) (x:X) (y:X) (tm:List AV) (H:ab):Option (Nx×ab):=
 fJ sz bytes (x.ev tm) (rowOf H (y.ev tm)) H
def zB (sz:Nat) (bytes:Nat) (x:X) (y:X) (tm:List AV) (H:ab):Option (Nx×ab):=
 match x.ev tm,y.ev tm with
   | .sl sz' n cs tk,.sl sz'' m ds _=>
     if 0<sz/\(n+m)*bytes<=70368744177664/\n+m<=70368744177664 then
       if m≠0/\sz''=sz/\m*sz<=ds.length/\au (ds.take (m*sz))/\n=0/\tk.empty then some (.val (.msl sz H.length 0 m),H++[.cells (ds.take (m*sz))])
       else if m=0/\tk.empty then some (.val (.sl sz' n cs tk),H)else none
     else none
   |_,_=>none
def yT (sz:Nat) (bytes:Nat) (x:X) (y:X) (tm:List AV) (H:ab):Option (Nx×ab):=
 nL sz bytes (x.ev tm) (y.ev tm) H
def Gi (f:FuncId) (args:List X) (tm:List AV) (H:ab):Option (Nx×ab):=
 some (.enter f (args.map (·.ev tm)),H)
def Ft (rw:Bool) (f:FuncId) (args:List X) (tm:List AV) (H:ab):Option (Nx×ab):=
 some (.dR rw f (args.map (·.ev tm)),H)
def EL (f:FuncId) (args:List X) (tm:List AV) (H:ab):Option (Nx×ab):=
 some (.dR false f (args.map (·.ev tm)),H)
def Kq (x:X) (tm:List AV) (H:ab):Option (Nx×ab):=
 if au (x.ev tm).flat then some (.val (.ptr H.length 0),H++[.cells (x.ev tm).flat])else none
def GM (x:X) (args:List X) (tm:List AV) (H:ab):Option (Nx×ab):=
 match x.ev tm with
   | .fn f caps=>some (.enter f (args.map (·.ev tm)++caps),H)
   | .bnd f fs=>some (.enter f (fs++args.map (·.ev tm)),H)
   | .yld id=>some (.yield id (args.map (·.ev tm)),H)
   |_=>none
def He (tm:List AV) (H:ab):Option (Nx×ab):=
 some (.fA,H)
def Fe (x:X) (tm:List AV) (H:ab):Option (Nx×ab):=
 match x.ev tm with
   | .iface t v=>some (.pan (.iface t v),H)
   |_=>none
def Nn (x:X) (args:List X) (tm:List AV) (H:ab):Option (Nx×ab):=
 match x.ev tm with
   | .fn f caps=>some (.dfr (.call f (args.map (·.ev tm)++caps)),H)
   |_=>none
def yq (sz:Nat) (bytes:Nat) (zs:List AV) (l:X) (c:X) (tm:List AV) (H:ab):Option (Nx×ab):=
 match gh sz bytes zs (l.ev tm) (c.ev tm)with
   |some n=>some (.val (.msl sz H.length 0 n),H++[.cells (cc n zs)])
   |none=>none
def GD (sz:Nat) (len:Nat) (zs:List AV) (ps:List (Nat×Nat×X)) (tm:List AV) (H:ab):Option (Nx×ab):=
 match dY zs (evP tm ps)with
   |some cs=>if au cs&&cs.length==len*sz then some (.val (.rsl sz H.length len),H++[.cells cs])else none
   |none=>none
def IF (sz:Nat) (bytes:Nat) (zs:List AV) (x:X) (n:X) (tm:List AV) (H:ab):Option (Nx×ab):=
 match x.ev tm,gh sz bytes zs (n.ev tm) (n.ev tm)with
   | .sl sz' k cs (.own g),some m=>fJ sz bytes (.sl sz' k cs (.own g)) (.sl sz m (cc m zs) .ro) H
   | .rsl sz' id k,some m=>nL sz bytes (.rsl sz' id k) (.sl sz m (cc m zs) .ro) H
   |_,_=>none
def NL (_:X) (_:List AV) (_:ab):Option (Nx×ab):=none
def I9 (_:X) (_:X) (_:X) (_:List AV) (_:ab):Option (Nx×ab):=none
def DQ (_:List AV) (_:List (Nat×Nat×X)) (_:List AV) (_:ab):Option (Nx×ab):=none
def Cg (_:Nat) (_:Nat) (_:List AV) (_:List (Nat×Nat×X)) (_:List AV) (_:ab):Option (Nx×ab):=none
def Cn (_:Nat) (_:Nat) (_:List AV) (_:List (Nat×Nat×X)) (_:List AV) (_:ab):Option (Nx×ab):=none
def N7 (_:Bool) (_:X) (_:X) (_:List AV) (_:ab):Option (Nx×ab):=none
def I3 (_:Nat) (_:Bool) (_:X) (_:List AV) (_:ab):Option (Nx×ab):=none
def LF (_:Nat) (_:X) (_:List AV) (_:ab):Option (Nx×ab):=none
def IW (_:Nat) (_:Nat) (_:Bool) (_:X) (_:List AV) (_:ab):Option (Nx×ab):=none
def Nu (_:Nat) (_:X) (_:X) (_:List AV) (_:ab):Option (Nx×ab):=none
def FI (_:Nat) (_:Nat) (_:X) (_:X) (_:List AV) (_:ab):Option (Nx×ab):=none
def Mc (_:Nat) (_:Nat) (_:Bool) (_:X) (_:X) (_:List AV) (_:ab):Option (Nx×ab):=none
def LK (_:X) (_:X) (_:List AV) (_:ab):Option (Nx×ab):=none
def LJ (_:BinOp) (_:EqK) (_:X) (_:X) (_:List AV) (_:ab):Option (Nx×ab):=none
def NQ (_:UnOp) (_:X) (_:List AV) (_:ab):Option (Nx×ab):=none
def Jt (_:CvK) (_:X) (_:List AV) (_:ab):Option (Nx×ab):=none
def JE (_:TypeId) (_:X) (_:List AV) (_:ab):Option (Nx×ab):=none
def Kr (_:FuncId) (_:List X) (_:List AV) (_:ab):Option (Nx×ab):=none
def Dm (_:Nat) (_:AV) (_:X) (_:X) (_:Bool) (_:List AV) (_:ab):Option (Nx×ab):=none
def y0 (_:TypeId) (_:AV) (_:X) (_:Bool) (_:List AV) (_:ab):Option (Nx×ab):=none
def MU (_:X) (_:Nat) (_:List AV) (_:ab):Option (Nx×ab):=none
def DR (_:Nat) (_:X) (_:Option X) (_:Option X) (_:List AV) (_:ab):Option (Nx×ab):=none
def Ff (_:X) (_:Option X) (_:Option X) (_:List AV) (_:ab):Option (Nx×ab):=none
def Kd (_:Nat) (_:X) (_:Option X) (_:Option X) (_:Option X) (_:List AV) (_:ab):Option (Nx×ab):=none
def MG (_:Nat) (_:X) (_:List AV) (_:ab):Option (Nx×ab):=none
def G0 (_:X) (_:List AV) (_:ab):Option (Nx×ab):=none
def zi (_:Nat) (_:Nat) (_:List AV) (_:X) (_:X) (_:List AV) (_:ab):Option (Nx×ab):=none
def HL (_:FuncId) (_:List X) (_:List AV) (_:ab):Option (Nx×ab):=none
def JF (_:X) (_:X) (_:List AV) (_:ab):Option (Nx×ab):=none
def FK (_:Nat) (_:Nat) (_:X) (_:Option X) (_:Option X) (_:List AV) (_:ab):Option (Nx×ab):=none
def Gv (_:Nat) (_:X) (_:List AV) (_:ab):Option (Nx×ab):=none
def MR (_:List X) (_:List X) (_:List AV) (_:ab):Option (Nx×ab):=none
def JX (_:X) (_:List AV) (_:ab):Option (Nx×ab):=none
def KB (_:Nat) (_:Nat) (_:X) (_:X) (_:List AV) (_:ab):Option (Nx×ab):=none
def IE (_:X) (_:X) (_:List AV) (_:ab):Option (Nx×ab):=none
def Ja (_:Nat) (_:Nat) (_:X) (_:X) (_:List AV) (_:ab):Option (Nx×ab):=none
def Ki (_:Nat) (_:Nat) (_:List AV) (_:X) (_:X) (_:List AV) (_:ab):Option (Nx×ab):=none
def Lb (o:AOp):List AV->ab->Option (Nx×ab):=
 AOp.casesOn (motive:=fun _=>List AV->ab->Option (Nx×ab)) o NL I9 En Mp DQ Cg Cn N7 I3 GW LF IW Nu FI Mc LK LJ NQ Jt JE Kr Hu Dm D8 y0 MU DR Ff Kd MG Cz zB yT Gi Ft GM He Fe Nn G0 zi yq HL JF IF FK Gv MR JX KB IE Nf M7 EL Kq Ja Ki GD
theorem HS (o:AOp) (tm:List AV) (H:ab):Lb o tm H=bH o tm H:=by cases o<;>rfl
abbrev RX:=Option (Ex×Fr×ab)
def IU (fr:Fr) (k:AV->ab->RX) (o:Option (Out×ab)):RX:=
 match o with
 |some (.ret v,H)=>k v H
 |some (.pan c,H)=>some (.panic c,fr,H)
 |none=>none
def OT (rd:Option Nat) (k:RX):RX:=
 match rd with
 |some _=>none
 |none=>k
def N2 (cb:CB) (rd:Option Nat) (fr:Fr) (dst:Option Nat) (ih:Fr->ab->RX) (r:Option (Nx×ab)):RX:=
 match r with
 |some (.val v,H)=>ih ⟨bZ fr.tm dst v,fr.df⟩ H
 |some (.skip,H)=>ih ⟨bZ fr.tm dst (.tup []),fr.df⟩ H
 |some (.enter f args,H)=>IU fr (fun v H=>ih ⟨bZ fr.tm dst v,fr.df⟩ H) (dS cb f args H)
 |some (.dR rw f args,H)=>IU fr (fun v H=>ih ⟨bZ fr.tm dst v,fr.df⟩ H) (eJ cb rw f args H)
 |some (.yield id args,H)=>IU fr (fun v H=>ih ⟨bZ fr.tm dst v,fr.df⟩ H) (cb.yl id args H)
 |some (.pan v,H)=>some (.panic [(v,false)],fr,H)
 |some (.dfr d,H)=>OT rd (ih ⟨bZ fr.tm dst (.tup []),d::fr.df⟩ H)
 |_=>none
def Lp (cb:CB) (rd:Option Nat) (o:ai) (ih:Fr->ab->RX) (fr:Fr) (H:ab) (v:Option AV):RX:=
 Option.casesOn (motive:=fun _=>RX) v (N2 cb rd fr o.dst ih (Lb o.op fr.tm H)) (fun v=>ih ⟨bZ fr.tm o.dst v,fr.df⟩ H)
def Et (cb:CB) (rd:Option Nat) (o:ai) (ih:Fr->ab->RX) (fr:Fr) (H:ab):RX:=
 Bool.casesOn (motive:=fun _=>RX) (bB fr.tm o.guard) (ih ⟨bZ fr.tm o.dst (.tup []),fr.df⟩ H) (Lp cb rd o ih fr H (Gc o.op fr.tm H))
def Ot (fr:Fr) (H:ab):RX:=some (.normal,fr,H)
def xv (cb:CB) (rd:Option Nat) (ops:List ai):Fr->ab->RX:=
 List.rec (motive:=fun _=>Fr->ab->RX) Ot (fun o _ ih=>Et cb rd o ih) ops
theorem gz (cb:CB) (rd:Option Nat):∀(ops:List ai) (fr:Fr) (H:ab),xv cb rd ops fr H=aT cb rd ops fr H
 |[],_,_=>rfl
 | o::r,fr,H=>by
   show Et cb rd o (xv cb rd r) fr H=_
   rw[aT];unfold Et Lp;rw[yz,HS]
   cases bB fr.tm o.guard with
   |false=>simp only[Bool.false_eq_true,if_false];exact gz cb rd r _ _
   | true=>
     simp only[if_true]
     cases aS o.op fr.tm H with
     |some v=>exact gz cb rd r _ _
     | none=>
       dsimp only;unfold N2
       cases bH o.op fr.tm H with
       |none=>rfl
       | some p=>
         obtain⟨nx,H1⟩:=p
         have hout:∀q:Option (Out×ab),IU fr (fun v H=>xv cb rd r ⟨bZ fr.tm o.dst v,fr.df⟩ H) q=(match q with
             |some (.ret v,H'')=>aT cb rd r {fr with tm:=bZ fr.tm o.dst v} H''
             |some (.pan c,H'')=>some (.panic c,fr,H'')
             |none=>none):=by
           intro q
           cases q with
           |none=>rfl
           | some q=>
             obtain⟨o',H2⟩:=q
             cases o' with
             |ret v=>exact gz cb rd r _ _
             |pan c=>rfl
         cases nx with
         |val v=>exact gz cb rd r _ _
         |skip=>exact gz cb rd r _ _
         |enter f args=>exact hout _
         |dR rw f args=>exact hout _
         |yield id args=>exact hout _
         |pan v=>rfl
         |fA=>rfl
         | dfr d=>
           cases rd with
           |none=>exact gz cb none r _ _
           |some _=>rfl
def prF (g:Nat) (r:Option PR):Option (AV×Option aj):=
 match r with
 |some (.plain v)=>some (v,none)
 |some (.fresh sz n cs)=>some (.sl sz n cs (.own g),some (.tok sz))
 |some (.iJ es)=>some (.mp g,some (.map es))
 |_=>none
def Ow (cb:CB) (H G:ab) (op:AOp) (tm:List AV) (g:Nat):Option (AV×Option aj):=
 match op with
 | .alloc zs=>some (.ptr g 0,some (.cells zs))
 | .lookup kk zero (.t i) k ok=>(aS (.lookup kk zero (.t i) k ok) tm G).map fun v=>(v,none)
 | .bM f args=>prF g (pcx cb f (args.map (·.ev tm)) H)
 | .ct x args=>
   match ig (x.ev tm) (args.map (·.ev tm))with
   |some (f,as)=>prF g (pcx cb f as H)
   |none=>none
 | .mM f args=>
   match pcx cb f (args.map (·.ev tm)) H with
   |some (.fresh sz n cs)=>if cs.all (·.lH)&&cs.length==n*sz then some (.msl sz g 0 n,some (.cells cs))else none
   |_=>none
 | .rU x=>if au (x.ev tm).flat then some (.ptr g 0,some (.cells (x.ev tm).flat))else none
 |op=>apX H.length op tm G g
def okF (v:AV):Option (AV×Option aj):=some (v,none)
def ML (cb:CB) (H G:ab) (o:ai) (tm:List AV) (g:Nat):Option (AV×Option aj):=
 Bool.casesOn (motive:=fun _=>Option (AV×Option aj)) (bB tm o.guard) (okF (.tup [])) (Option.casesOn (motive:=fun _=>Option (AV×Option aj)) (Gc o.op tm H) (Ow cb H G o.op tm g) okF)
theorem Kp (cb:CB) (H G:ab) (o:ai) (tm:List AV) (g:Nat):ML cb H G o tm g=ap1 cb H G o tm g:=by
 unfold ML ap1;rw[yz]
 cases bB tm o.guard with
 |false=>rfl
 | true=>
   simp only[if_true]
   cases aS o.op tm H with
   |some v=>rfl
   | none=>
     dsimp only
     cases o.op<;>first|rfl|skip
abbrev PX:=Option (List AV×List aj)
def Ox (tm:List AV) (e:List aj):PX:=some (tm,e)
def M6 (cb:CB) (H:ab) (o:ai) (ih:List AV->List aj->PX) (tm:List AV) (e:List aj):PX:=
 match ML cb H (H++e) o tm (H.length+e.length)with
 |some (v,k)=>ih (bZ tm o.dst v) (kR H.length (bN o tm) (e++k.toList))
 |none=>none
def GI (cb:CB) (H:ab) (ops:List ai):List AV->List aj->PX:=
 List.rec (motive:=fun _=>List AV->List aj->PX) Ox (fun o _ ih=>M6 cb H o ih) ops
theorem wA (cb:CB) (H:ab):∀(ops:List ai) (tm:List AV) (e:List aj),GI cb H ops tm e=js cb H ops tm e
 |[],_,_=>rfl
 | o::r,tm,e=>by
   show M6 cb H o (GI cb H r) tm e=_
   rw[js];unfold M6;rw[Kp]
   cases ap1 cb H (H++e) o tm (H.length+e.length)with
   |none=>rfl
   |some p=>exact wA cb H r _ _
def LQ (iha ihb:Fr->ab->RX) (fr:Fr) (H:ab):RX:=
 match iha fr H with
 |some (.normal,fr',H')=>ihb fr' H'
 |r=>r
def EY (x:X) (iha ihb:Fr->ab->RX) (fr:Fr) (H:ab):RX:=
 match x.ev fr.tm with
 | .bool b=>Bool.casesOn (motive:=fun _=>RX) b (ihb fr H) (iha fr H)
 |_=>none
def yR (id:Nat) (iha:Fr->ab->RX) (fr:Fr) (H:ab):RX:=
 match iha fr H with
 |some (.exit id',fr',H')=>if id'=id then some (.normal,fr',H')else some (.exit id',fr',H')
 |r=>r
def DH (cb:CB) (rd:Option Nat) (a:aC) (iha:Fr->ab->RX) (fr:Fr) (H:ab):RX:=
 match iha fr H with
 |some (.normal,fr',H')=>cb.run rd (.loop a) fr' H'
 |r=>r
def zb (cb:CB) (rd:Option Nat) (pre tail:List ai) (fr:Fr) (H:ab):RX:=
 match GI cb H pre fr.tm [] with
 |some (tm,e)=>xv cb rd tail {fr with tm:=tm} (H++e)
 |none=>none
def nt (cb:CB) (rd:Option Nat) (w:aC) (iha:Fr->ab->RX) (fr:Fr) (H:ab):RX:=
 match iha fr H with
 | some (.goto l,fr',H')=>
   match e8 w l with
   |some rest=>cb.run rd (.b8 w rest) fr' H'
   |none=>some (.goto l,fr',H')
 |r=>r
def K9 (fr:Fr) (H:ab):RX:=some (.normal,fr,H)
def Oj (id:Nat) (fr:Fr) (H:ab):RX:=some (.exit id,fr,H)
def NB (l:Nat) (fr:Fr) (H:ab):RX:=some (.goto l,fr,H)
def ON (fr:Fr) (H:ab):RX:=some (.ret,fr,H)
def LN (cb:CB) (rd:Option Nat) (x:X) (ps:List Nat) (as bd:aC) (fr:Fr) (H:ab):RX:=aN cb rd (.range x ps as bd) fr H
def fK (cb:CB) (rd:Option Nat) (c:aC):Fr->ab->RX:=
 aC.rec (motive:=fun _=>Fr->ab->RX) K9 (fun ops=>xv cb rd ops) (fun p t=>zb cb rd p t) (fun _ _ iha ihb=>LQ iha ihb) (fun x _ _ iha ihb=>EY x iha ihb) (fun id _ iha=>yR id iha)
   (fun a iha=>DH cb rd a iha) (fun x ps as bd _ _=>LN cb rd x ps as bd) Oj (fun a iha=>nt cb rd a iha) (fun w _ _ iha=>nt cb rd w iha) (fun _=>K9) NB ON c
theorem tA (cb:CB) (rd:Option Nat) (c:aC):∀(fr:Fr) (H:ab),fK cb rd c fr H=aN cb rd c fr H:=by
 induction c with
 |region ops=>intro fr H;exact gz cb rd ops fr H
 | drawn p t=>
   intro fr H;show zb cb rd p t fr H=_
   rw[aN,zb,wA]
   cases js cb H p fr.tm [] with
   |none=>rfl
   |some q=>exact gz _ _ _ _ _
 | seq a b iha ihb=>
   intro fr H;show LQ (fK cb rd a) (fK cb rd b) fr H=_
   rw[aN,LQ,iha]
   cases aN cb rd a fr H with
   |none=>rfl
   |some q=>obtain⟨e,fr',H'⟩:=q;cases e<;>first|rfl|exact ihb _ _
 | cond x a b iha ihb=>
   intro fr H;show EY x (fK cb rd a) (fK cb rd b) fr H=_
   rw[aN,EY]
   cases x.ev fr.tm with
   | bool b'=>
     cases b' with
     |true=>exact iha _ _
     |false=>exact ihb _ _
   |_=>rfl
 | block id a iha=>
   intro fr H;show yR id (fK cb rd a) fr H=_
   rw[aN,yR,iha]
   cases aN cb rd a fr H with
   |none=>rfl
   |some q=>obtain⟨e,fr',H'⟩:=q;cases e<;>rfl
 | loop a iha=>
   intro fr H;show DH cb rd a (fK cb rd a) fr H=_
   rw[aN,DH,iha]
   cases aN cb rd a fr H with
   |none=>rfl
   |some q=>obtain⟨e,fr',H'⟩:=q;cases e<;>rfl
 | scope a iha=>
   intro fr H;show nt cb rd a (fK cb rd a) fr H=_
   rw[aN,nt,iha]
   cases aN cb rd a fr H with
   |none=>rfl
   |some q=>obtain⟨e,fr',H'⟩:=q;cases e<;>rfl
 | b8 w a _ iha=>
   intro fr H;show nt cb rd w (fK cb rd a) fr H=_
   rw[aN,nt,iha]
   cases aN cb rd a fr H with
   |none=>rfl
   |some q=>obtain⟨e,fr',H'⟩:=q;cases e<;>rfl
 |_=>intro fr H;rfl
def AO (tab:FuncId->Option av) (cb:CB) (fi:av) (args:List AV) (H:ab):Option (Out×ab):=
 match fK cb none fi.body (fr0 fi.np args) H with
 | some (e,fr,H1)=>
   match (match e with| .normal| .ret=>some Mode.returning| .panic c=>some (Mode.panicking c)|_=>none)with
   | some u=>
     match b6 tab cb fr.df u H1 with
     |some (.returning,H2)=>(lD fr.tm H2 fi.res).map fun vs=>(.ret (ae vs),H2)
     |some (.panicking c,H2)=>some (.pan c,H2)
     |none=>none
   |none=>none
 |none=>none
theorem xU (tab:FuncId->Option av) (cb:CB) (fi:av) (args:List AV) (H:ab):AO tab cb fi args H=gj tab cb fi args H:=by
 unfold AO gj;rw[tA]
 cases aN cb none fi.body (fr0 fi.np args) H with
 |none=>rfl
 | some q=>
   obtain⟨e,fr,H1⟩:=q
   cases e with
   | normal=>
     dsimp only
     cases b6 tab cb fr.df .returning H1 with
     |none=>rfl
     |some p=>obtain⟨m,H2⟩:=p;cases m<;>rfl
   | ret=>
     dsimp only
     cases b6 tab cb fr.df .returning H1 with
     |none=>rfl
     |some p=>obtain⟨m,H2⟩:=p;cases m<;>rfl
   | panic c=>
     dsimp only
     cases b6 tab cb fr.df (.panicking c) H1 with
     |none=>rfl
     |some p=>obtain⟨m,H2⟩:=p;cases m<;>rfl
   |exit _=>rfl
   |goto _=>rfl
def pcF (tab:FuncId->Option av) (cb:CB) (f:FuncId) (args:List AV):Option PR:=
 match tab f with
 | some fi=>match fi.con with
   |some g=>g args
   |none=>if bV fi args then rZ fi.mode (AO tab cb fi (args.map aE) [])else none
 |none=>none
def icF (tab:FuncId->Option av) (cb:CB) (f:FuncId) (args:List AV) (H:ab):Option (Out×ab):=
 match tab f with
 | some fi=>if fi.con.isSome||bV fi args then none else match fi.nO with
   |some g=>g args H
   |none=>AO tab cb fi args H
 |none=>none
theorem Mu (tab:FuncId->Option av) (cb:CB) (f:FuncId) (args:List AV):pcF tab cb f args=pcA tab cb f args:=by
 unfold pcF pcA;simp only[xU]
 cases tab f<;>rfl
theorem Nr (tab:FuncId->Option av) (cb:CB) (f:FuncId) (args:List AV) (H:ab):icF tab cb f args H=icA tab cb f args H:=by
 unfold icF icA;simp only[xU]
 cases tab f<;>rfl
def NJ (tab:FuncId->Option av) (cb:CB):CB:=⟨pcF tab cb,icF tab cb,ylA cb,fK cb,iu tab⟩
def Px (tab:FuncId->Option av):Nat->CB:=
 Nat.rec ⟨fun _ _=>none,fun _ _ _=>none,fun _ _ _=>none,fun _ _ _ _=>none,iu tab⟩ (fun _ ih=>NJ tab ih)
def NY (tab:FuncId->Option av) (known:FuncId->List AV->Option PR) (cb:CB):CB:=
 ⟨fun f args=>Option.casesOn (motive:=fun _=>Option PR) (known f args) (pcF tab cb f args) some,icF tab cb,ylA cb,fK cb,iu tab⟩
def uR (tab:FuncId->Option av) (known:FuncId->List AV->Option PR):Nat->CB:=
 Nat.rec ⟨fun _ _=>none,fun _ _ _=>none,fun _ _ _=>none,fun _ _ _ _=>none,iu tab⟩ (fun _ ih=>NY tab known ih)
theorem BF {tab:FuncId->Option av} {known:FuncId->List AV->Option PR} (hk:∀f args r,known f args=some r->(cbL tab).pc f args=some r):∀n,CB.Le (uR tab known n) (cbL tab)
 |0=>⟨fun _ _ _ h=>(by cases h),fun _ _ _ _ h=>(by cases h),fun _ _ _ _ h=>(by cases h),fun _ _ _ _ _ h=>(by cases h),fun f=>eD 0 f,fun _ _ _ _ h=>(by cases h)⟩
 | n+1=>by
   have ih:=BF hk n
   have hi:∀f args H r,(uR tab known (n+1)).ic f args H=some r->(cbL tab).ic f args H=some r:=by
     intro f args H r h;have h:icF tab (uR tab known n) f args H=some r:=h;rw[Nr]at h;exact GB (yw ih (fun _ _ h=>h) h)
   refine⟨?_,hi, ?_, ?_,fun f=>eD (n+1) f, ?_⟩
   . intro f args r h;have h:Option.casesOn (motive:=fun _=>Option PR) (known f args) (pcF tab (uR tab known n) f args) some=some r:=h
     cases hk2:known f args with
     | some q=>
       rw[hk2]at h;cases h;exact hk f args _ hk2
     | none=>
       rw[hk2]at h;have h:pcF tab (uR tab known n) f args=some r:=h;rw[Mu]at h;exact sc (wP ih (fun _ _ h=>h) h)
   . intro id args H r h;have h:ylA (uR tab known n) id args H=some r:=h;exact Lq (yb ih h)
   . intro rd c fr H r h;have h:fK (uR tab known n) rd c fr H=some r:=h;rw[tA]at h;exact HQ (bL ih _ _ _ _ h)
   . intro f args H r h;obtain⟨m,hm⟩:=ix.1 (hi f args H r h);exact(pW m).sep _ _ _ _ hm
theorem G9 {tab:FuncId->Option av} {known:FuncId->List AV->Option PR} (hk:∀f args r,known f args=some r->(cbL tab).pc f args=some r) (n:Nat) {f:FuncId} {args:List AV} {r:PR} (h:(uR tab known n).pc f args=some r):(cbL tab).pc f args=some r:=
 (BF hk n).pc f args r h
end
end Go.Am
