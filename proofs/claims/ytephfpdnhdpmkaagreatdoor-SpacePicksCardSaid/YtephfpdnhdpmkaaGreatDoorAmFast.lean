/- THE INTERPRETER ONCE MORE, for the kernel to run: each branch is a constant of its own, so that a step makes small terms; and it is the same. No condition. -/
import Derived.Test.YtephfpdnhdpmkaaGreatDoorAmLim
set_option linter.all false
namespace Go.Am
open Go
noncomputable section
def Oa (x:X) (tm:List AV) (H:ab):Option AV:=
 some (x.ev tm)
def IY (c:X) (a:X) (b:X) (tm:List AV) (H:ab):Option AV:=
 match c.ev tm with
   | .bool t=>some (if t then a.ev tm else b.ev tm)
   |_=>none
def HX (zs:List AV) (ps:List (Nat×Nat×X)) (tm:List AV) (H:ab):Option AV:=
 (dV zs (evP tm ps)).map .agg
def BW (sz:Nat) (len:Nat) (zs:List AV) (ps:List (Nat×Nat×X)) (tm:List AV) (H:ab):Option AV:=
 match dV zs (evP tm ps)with
   |some cs=>if aw cs&&cs.length==len*sz then some (.sl sz len cs (if len=0 then .e else .ro))else none
   |none=>none
def Ci (sz:Nat) (len:Nat) (zs:List AV) (ps:List (Nat×Nat×X)) (tm:List AV) (H:ab):Option AV:=
 match dV zs (evP tm ps)with
   |some cs=>if aw cs&&cs.length==len*sz then some (.sl sz len cs .e)else none
   |none=>none
def Og (mx:Bool) (x:X) (y:X) (tm:List AV) (H:ab):Option AV:=
 match x.ev tm,y.ev tm with
   | .int k a,.int _ b=>some (.int k (if mx then(if a<b then b else a)else(if b<a then b else a)))
   |_,_=>none
def IW (sz:Nat) (ag:Bool) (x:X) (tm:List AV) (H:ab):Option AV:=
 match x.ev tm with
   | .ptr id off=>match H[id]? with
     |some (.cells cs)=>dP cs off sz ag
     |_=>none
   | .bX cs=>dP cs 0 sz ag
   |_=>none
def ME (off:Nat) (x:X) (tm:List AV) (H:ab):Option AV:=
 match x.ev tm with
   | .ptr id o=>some (.ptr id (o+off))
   | .bX cs=>some (.bX (cs.drop off))
   |_=>none
def Kp (off:Nat) (sz:Nat) (ag:Bool) (x:X) (tm:List AV) (H:ab):Option AV:=
 match x.ev tm with
   | .agg cs=>dP cs off sz ag
   |_=>none
def Nw (sz:Nat) (x:X) (i:X) (tm:List AV) (H:ab):Option AV:=
 match x.ev tm,i.ev tm with
   | .sl sz' n cs _,.int _ j=>if sz=sz'/\0<=j/\j<n then some (.bX (cs.drop (j.toNat*sz)))else none
   | .msl sz' id off n,.int _ j=>if sz=sz'/\0<=j/\j<n then some (.ptr id (off+j.toNat*sz))else none
   | .rsl sz' id n,.int _ j=>if sz=sz'/\0<=j/\j<n then some (.ptr id (j.toNat*sz))else none
   |_,_=>none
def Fq (n:Nat) (sz:Nat) (x:X) (i:X) (tm:List AV) (H:ab):Option AV:=
 match x.ev tm,i.ev tm with
   | .ptr id off,.int _ j=>if 0<=j/\j<n then some (.ptr id (off+j.toNat*sz))else none
   | .bX cs,.int _ j=>if 0<=j/\j<n then some (.bX (cs.drop (j.toNat*sz)))else none
   |_,_=>none
def LL (n:Nat) (sz:Nat) (ag:Bool) (x:X) (i:X) (tm:List AV) (H:ab):Option AV:=
 match x.ev tm,i.ev tm with
   | .agg cs,.int _ j=>if 0<=j/\j<n then dP cs (j.toNat*sz) sz ag else none
   |_,_=>none
def MP (x:X) (i:X) (tm:List AV) (H:ab):Option AV:=
 match x.ev tm,i.ev tm with
   | .str s,.int _ j=>if 0<=j then(s[j.toNat]?).map fun b=> .int .u8 b.toNat else none
   |_,_=>none
def My (op:BinOp) (ek:EqK) (x:X) (y:X) (tm:List AV) (H:ab):Option AV:=
 bC op ek x y (x.ev tm) (y.ev tm)
def NQ (op:UnOp) (x:X) (tm:List AV) (H:ab):Option AV:=
 unV op (x.ev tm)
def K2 (k:CvK) (x:X) (tm:List AV) (H:ab):Option AV:=
 match k,x.ev tm with
   | .int k,.int _ n=>some (.int k (k.wrap n))
   | .same,.str s=>some (.str s)
   | .s2b,.str s=>if s.size<=70368744177664 then some (.sl 1 s.size (jR s) .ro)else none
   | .b2s,.sl sz n cs _=>if sz=1∨n=0 then(hU (cs.take n)).map fun l=> .str ⟨l.toArray⟩else none
   |_,_=>none
def Jt (t:TypeId) (x:X) (tm:List AV) (H:ab):Option AV:=
 some (.iface t (x.ev tm))
def LJ (lx:List X) (sx:List X) (tm:List AV) (H:ab):Option AV:=
 if cr (lx.map (·.ev tm)) (sx.map (·.ev tm))then some (.tup [])else none
def Kz (x:X) (tm:List AV) (H:ab):Option AV:=
 if aw (x.ev tm).flat then some (.bX (x.ev tm).flat)else none
def K7 (sz:Nat) (bytes:Nat) (x:X) (y:X) (tm:List AV) (H:ab):Option AV:=
 match x.ev tm,y.ev tm with
   | .sl sz' 0 [] .e,.sl sz'' m ds _=>
     if 0<sz/\m*bytes<=70368744177664/\m<=70368744177664/\m≠0/\sz''=sz/\m*sz<=ds.length/\aw (ds.take (m*sz))=true then some (.sl sz m (ds.take (m*sz)) .ro)
     else if m=0 then some (.sl sz' 0 [] .e)else none
   |_,_=>none
def Jb (f:FuncId) (caps:List X) (tm:List AV) (H:ab):Option AV:=
 some (.fn f (caps.map (·.ev tm)))
def Ig (f:FuncId) (fs:List X) (tm:List AV) (H:ab):Option AV:=
 some (.bnd f (fs.map (·.ev tm)))
def JQ (x:X) (c:X) (tm:List AV) (H:ab):Option AV:=
 match x.ev tm,c.ev tm with
   | .str s,.int .u8 k=>some (Mw (rS (UInt8.ofNat k.toNat) s.data.toList))
   |_,_=>none
def JK (x:X) (c:X) (tm:List AV) (H:ab):Option AV:=
 match x.ev tm,c.ev tm with
   | .str s,.int .u8 k=>some (.int .i64 (s.data.toList.count (UInt8.ofNat k.toNat):Nat))
   |_,_=>none
def zG (sz:Nat) (bytes:Nat) (zs:List AV) (l:X) (c:X) (tm:List AV) (H:ab):Option AV:=
 match gd sz bytes zs (l.ev tm) (c.ev tm)with
   |some n=>some (.sl sz n (cf n zs) .e)
   |none=>none
def CP (kk:Nat) (zero:AV) (x:X) (i:X) (ok:Bool) (tm:List AV) (H:ab):Option AV:=
 match x.ev tm with
   | .fB=>match bk kk (i.ev tm) (i.ev tm)with
     |some _=>some (if ok then .tup [zero,.bool false] else zero)
     |none=>none
   | .mp id=>match H[id]? with
     | some (.map es)=>match bk kk (i.ev tm) (i.ev tm),cB kk (i.ev tm) es 0 with
       |some _,some (some (_,v))=>some (if ok then .tup [v,.bool true] else v)
       |some _,some none=>some (if ok then .tup [zero,.bool false] else zero)
       |_,_=>none
     |_=>none
   |_=>none
def zO (t:TypeId) (zero:AV) (x:X) (ok:Bool) (tm:List AV) (H:ab):Option AV:=
 match x.ev tm with
   | .iface t' v=>if t'=t then some (if ok then .tup [v,.bool true] else v)else if ok then some (.tup [zero,.bool false])else none
   | .fJ=>if ok then some (.tup [zero,.bool false])else none
   |_=>none
def MB (x:X) (i:Nat) (tm:List AV) (H:ab):Option AV:=
 match x.ev tm with
   | .tup vs=>vs[i]?
   |_=>none
def EM (sz:Nat) (x:X) (lo:Option X) (hi:Option X) (tm:List AV) (H:ab):Option AV:=
 match x.ev tm with
   | .sl sz' n cs tk=>match bound tm lo 0,bound tm hi n with
     | some l,some h=>
       if sz=sz'/\0<sz/\l<=h/\h*sz<=cs.length then
         some (if l=0/\h=n then .sl sz n cs tk else .sl sz (h-l) (cs.drop (l*sz)) .ro)
       else if tk.isZ=true/\l=0/\h=0 then some (.sl sz' n cs tk)else none
     |_,_=>none
   | .msl sz' id off n=>match bound tm lo 0,bound tm hi n with
     |some l,some h=>if sz=sz'/\0<sz/\l<=h/\h<=n then some (if l=h then .sl sz 0 [] .ro else .msl sz id (off+l*sz) (h-l))else none
     |_,_=>none
   |_=>none
def I7 (sz:Nat) (x:X) (lo:Option X) (hi:Option X) (mx:Option X) (tm:List AV) (H:ab):Option AV:=
 match x.ev tm with
   | .sl sz' n cs tk=>match bound tm lo 0,bound tm hi n,bound tm mx n with
     | some l,some h,some m=>
       if sz=sz'/\0<sz/\l<=h/\h=m/\h*sz<=cs.length/\tk.isZ=false then
         some (.sl sz (h-l) ((cs.take (h*sz)).drop (l*sz)) .ro)
       else none
     |_,_,_=>none
   | .msl sz' id off n=>match bound tm lo 0,bound tm hi n,bound tm mx n with
     |some l,some h,some m=>if sz=sz'/\0<sz/\l<=h/\h=m/\h<=n then some (if l=h then .sl sz 0 [] .ro else .msl sz id (off+l*sz) (h-l))else none
     |_,_,_=>none
   |_=>none
def Hq (x:X) (lo:Option X) (hi:Option X) (tm:List AV) (H:ab):Option AV:=
 match x.ev tm with
   | .str s=>match bound tm lo 0,bound tm hi s.size with
     |some l,some h=>if l<=h/\h<=s.size then some (.str (s.extract l h))else none
     |_,_=>none
   |_=>none
def Gk (n:Nat) (sz:Nat) (x:X) (lo:Option X) (hi:Option X) (tm:List AV) (H:ab):Option AV:=
 match x.ev tm with
   | .ptr id off=>match bound tm lo 0,bound tm hi n with
     |some l,some h=>if l<=h/\h<=n then some (if l=h then .sl sz 0 [] .ro else .msl sz id (off+l*sz) (h-l))else none
     |_,_=>none
   | .bX cs=>match bound tm lo 0,bound tm hi n with
     |some l,some h=>if l<=h/\h<=n/\n*sz<=cs.length then some (if l=h then .sl sz 0 [] .ro else .sl sz (h-l) ((cs.take (n*sz)).drop (l*sz)) .ro)else none
     |_,_=>none
   |_=>none
def GF (n:Nat) (x:X) (tm:List AV) (H:ab):Option AV:=
 match x.ev tm with
   | .sl _ m cs _=>if 0<n/\n<=m then some (.bX cs)else none
   | .msl _ id off m=>if n<=m then some (.ptr id off)else none
   |_=>none
def LK (k:Nat) (x:X) (tm:List AV) (H:ab):Option AV:=
 match k,x.ev tm with
   |0,.sl _ n _ _=>some (.int .i64 n)
   |0,.msl _ _ _ n=>some (.int .i64 n)
   |0,.rsl _ _ n=>some (.int .i64 n)
   |1,.str s=>some (.int .i64 s.size)
   |2,.fB=>some (.int .i64 0)
   | 2,.mp id=>match H[id]? with
     |some (.map es)=>some (.int .i64 es.length)
     |_=>none
   |_,_=>none
def FI (x:X) (tm:List AV) (H:ab):Option AV:=
 match x.ev tm with
   | .ptr id off=>some (.ptr id off)
   | .bX cs=>some (.bX cs)
   | .fn f cs=>some (.fn f cs)
   | .bnd f cs=>some (.bnd f cs)
   | .iface t v=>some (.iface t v)
   |_=>none
def Gv (_:List AV) (_:List AV) (_:ab):Option AV:=none
def Ma (_:X) (_:List AV) (_:ab):Option AV:=none
def HZ (_:Nat) (_:X) (_:X) (_:List AV) (_:ab):Option AV:=none
def HB (_:List AV) (_:ab):Option AV:=none
def Eh (_:Nat) (_:X) (_:X) (_:X) (_:List AV) (_:ab):Option AV:=none
def B4 (_:Nat) (_:Nat) (_:X) (_:X) (_:List AV) (_:ab):Option AV:=none
def zn (_:Nat) (_:Nat) (_:X) (_:X) (_:List AV) (_:ab):Option AV:=none
def zN (_:Nat) (_:Nat) (_:X) (_:X) (_:List AV) (_:ab):Option AV:=none
def Hs (_:FuncId) (_:List X) (_:List AV) (_:ab):Option AV:=none
def G8 (_:Bool) (_:FuncId) (_:List X) (_:List AV) (_:ab):Option AV:=none
def DM (_:X) (_:List X) (_:List AV) (_:ab):Option AV:=none
def DC (_:List AV) (_:ab):Option AV:=none
def Il (_:X) (_:List AV) (_:ab):Option AV:=none
def Md (_:X) (_:List X) (_:List AV) (_:ab):Option AV:=none
def w9 (_:Nat) (_:Nat) (_:List AV) (_:X) (_:X) (_:List AV) (_:ab):Option AV:=none
def K4 (_:Nat) (_:Nat) (_:List AV) (_:X) (_:X) (_:List AV) (_:ab):Option AV:=none
def Nb (_:Nat) (_:List AV) (_:X) (_:List AV) (_:ab):Option AV:=none
def LX (_:Nat) (_:X) (_:X) (_:List AV) (_:ab):Option AV:=none
def GK (_:FuncId) (_:List X) (_:List AV) (_:ab):Option AV:=none
def J3 (_:X) (_:List AV) (_:ab):Option AV:=none
def JG (_:Nat) (_:Nat) (_:X) (_:X) (_:List AV) (_:ab):Option AV:=none
def Kf (_:Nat) (_:Nat) (_:List AV) (_:X) (_:X) (_:List AV) (_:ab):Option AV:=none
def HN (_:Nat) (_:Nat) (_:List AV) (_:List (Nat×Nat×X)) (_:List AV) (_:ab):Option AV:=none
def Hk (o:AOp):List AV->ab->Option AV:=
 AOp.casesOn (motive:=fun _=>List AV->ab->Option AV) o Oa IY Gv Ma HX BW Ci Og IW HZ ME Kp Nw Fq LL MP My NQ K2 Jt Jb HB CP Eh zO MB EM Hq I7 LK B4 zn zN Hs G8 DM DC Il Md FI zG w9 Ig JQ K4 Gk GF LJ Kz K7 JK Nb LX GK J3 JG Kf HN
theorem xg (o:AOp) (tm:List AV) (H:ab):Hk o tm H=aU o tm H:=by cases o<;>rfl
def F4 (zs:List AV) (tm:List AV) (H:ab):Option (Nx×ab):=
 some (.val (.ptr H.length 0),H++[.cells zs])
def Mr (x:X) (tm:List AV) (H:ab):Option (Nx×ab):=
 if aw (x.ev tm).flat then some (.val (.ptr H.length 0),H++[.cells (x.ev tm).flat])else none
def El (sz:Nat) (a:X) (x:X) (tm:List AV) (H:ab):Option (Nx×ab):=
 match a.ev tm with
   | .ptr id off=>match H[id]? with
     | some (.cells cs)=>
       if(x.ev tm).flat.length=sz/\off+sz<=cs.length/\aw (x.ev tm).flat then
         some (.skip,H.set id (.cells (cs.take off++(x.ev tm).flat++cs.drop (off+sz))))
       else none
     |_=>none
   |_=>none
def M8 (sz:Nat) (zs:List AV) (x:X) (tm:List AV) (H:ab):Option (Nx×ab):=
 match x.ev tm with
   | .sl _ 0 _ _=>some (.val (.tup []),H)
   | .msl sz' id off n=>match H[id]? with
     | some (.cells cs)=>
       if sz'=sz/\zs.length=sz/\n≠0/\off+n*sz<=cs.length/\aw zs=true then
         some (.val (.tup []),H.set id (.cells (cs.take off++cf n zs++cs.drop (off+n*sz))))
       else none
     |_=>none
   |_=>none
def LI (sz:Nat) (x:X) (y:X) (tm:List AV) (H:ab):Option (Nx×ab):=
 match x.ev tm,rowOf H (y.ev tm)with
   | .msl sz' id off n,.sl sz'' m ds _=>match H[id]? with
     | some (.cells cs)=>
       if m=0 then some (.val (.int .i64 0),H)
       else if sz'=sz/\sz''=sz/\min m n*sz<=ds.length/\off+min m n*sz<=cs.length/\aw (ds.take (min m n*sz))=true then
         some (.val (.int .i64 (min m n:Nat)),H.set id (.cells (cs.take off++ds.take (min m n*sz)++cs.drop (off+min m n*sz))))
       else none
     |_=>none
   |_,_=>none
def HC (tm:List AV) (H:ab):Option (Nx×ab):=
 some (.val (.mp H.length),H++[.map []])
def Hy (kk:Nat) (x:X) (k:X) (v:X) (tm:List AV) (H:ab):Option (Nx×ab):=
 match x.ev tm with
   | .mp id=>match H[id]? with
     | some (.map es)=>match bk kk (k.ev tm) (k.ev tm),cB kk (k.ev tm) es 0 with
       |some _,some (some (i,_))=>some (.skip,H.set id (.map (es.set i (k.ev tm,v.ev tm))))
       |some _,some none=>some (.skip,H.set id (.map (es++[(k.ev tm,v.ev tm)])))
       |_,_=>none
     |_=>none
   |_=>none
def CV (sz:Nat) (bytes:Nat) (x:X) (y:X) (tm:List AV) (H:ab):Option (Nx×ab):=
 fQ sz bytes (x.ev tm) (rowOf H (y.ev tm)) H
def zV (sz:Nat) (bytes:Nat) (x:X) (y:X) (tm:List AV) (H:ab):Option (Nx×ab):=
 match x.ev tm,y.ev tm with
   | .sl sz' n cs tk,.sl sz'' m ds _=>
     if 0<sz/\(n+m)*bytes<=70368744177664/\n+m<=70368744177664 then
       if m≠0/\sz''=sz/\m*sz<=ds.length/\aw (ds.take (m*sz))/\n=0/\tk.empty then some (.val (.msl sz H.length 0 m),H++[.cells (ds.take (m*sz))])
       else if m=0/\tk.empty then some (.val (.sl sz' n cs tk),H)else none
     else none
   |_,_=>none
def yX (sz:Nat) (bytes:Nat) (x:X) (y:X) (tm:List AV) (H:ab):Option (Nx×ab):=
 jx sz bytes (x.ev tm) (y.ev tm) H
def EE (f:FuncId) (args:List X) (tm:List AV) (H:ab):Option (Nx×ab):=
 some (.enter f (args.map (·.ev tm)),H)
def Ee (rw:Bool) (f:FuncId) (args:List X) (tm:List AV) (H:ab):Option (Nx×ab):=
 some (.dR rw f (args.map (·.ev tm)),H)
def Fs (f:FuncId) (args:List X) (tm:List AV) (H:ab):Option (Nx×ab):=
 some (.dR false f (args.map (·.ev tm)),H)
def IE (x:X) (tm:List AV) (H:ab):Option (Nx×ab):=
 if aw (x.ev tm).flat then some (.val (.ptr H.length 0),H++[.cells (x.ev tm).flat])else none
def Gn (x:X) (args:List X) (tm:List AV) (H:ab):Option (Nx×ab):=
 match x.ev tm with
   | .fn f caps=>some (.enter f (args.map (·.ev tm)++caps),H)
   | .bnd f fs=>some (.enter f (fs++args.map (·.ev tm)),H)
   | .yld id=>some (.yield id (args.map (·.ev tm)),H)
   |_=>none
def FO (tm:List AV) (H:ab):Option (Nx×ab):=
 some (.fE,H)
def Ej (x:X) (tm:List AV) (H:ab):Option (Nx×ab):=
 match x.ev tm with
   | .iface t v=>some (.pan (.iface t v),H)
   |_=>none
def LH (x:X) (args:List X) (tm:List AV) (H:ab):Option (Nx×ab):=
 match x.ev tm with
   | .fn f caps=>some (.dfr (.call f (args.map (·.ev tm)++caps)),H)
   |_=>none
def xV (sz:Nat) (bytes:Nat) (zs:List AV) (l:X) (c:X) (tm:List AV) (H:ab):Option (Nx×ab):=
 match gd sz bytes zs (l.ev tm) (c.ev tm)with
   |some n=>some (.val (.msl sz H.length 0 n),H++[.cells (cf n zs)])
   |none=>none
def DB (sz:Nat) (len:Nat) (zs:List AV) (ps:List (Nat×Nat×X)) (tm:List AV) (H:ab):Option (Nx×ab):=
 match dV zs (evP tm ps)with
   |some cs=>if aw cs&&cs.length==len*sz then some (.val (.rsl sz H.length len),H++[.cells cs])else none
   |none=>none
def IF (sz:Nat) (bytes:Nat) (zs:List AV) (x:X) (n:X) (tm:List AV) (H:ab):Option (Nx×ab):=
 match x.ev tm,gd sz bytes zs (n.ev tm) (n.ev tm)with
   | .sl sz' k cs (.own g),some m=>fQ sz bytes (.sl sz' k cs (.own g)) (.sl sz m (cf m zs) .ro) H
   | .rsl sz' id k,some m=>jx sz bytes (.rsl sz' id k) (.sl sz m (cf m zs) .ro) H
   |_,_=>none
def Ow (_:X) (_:List AV) (_:ab):Option (Nx×ab):=none
def KG (_:X) (_:X) (_:X) (_:List AV) (_:ab):Option (Nx×ab):=none
def FX (_:List AV) (_:List (Nat×Nat×X)) (_:List AV) (_:ab):Option (Nx×ab):=none
def Cb (_:Nat) (_:Nat) (_:List AV) (_:List (Nat×Nat×X)) (_:List AV) (_:ab):Option (Nx×ab):=none
def Cy (_:Nat) (_:Nat) (_:List AV) (_:List (Nat×Nat×X)) (_:List AV) (_:ab):Option (Nx×ab):=none
def N3 (_:Bool) (_:X) (_:X) (_:List AV) (_:ab):Option (Nx×ab):=none
def Jm (_:Nat) (_:Bool) (_:X) (_:List AV) (_:ab):Option (Nx×ab):=none
def Ms (_:Nat) (_:X) (_:List AV) (_:ab):Option (Nx×ab):=none
def Kb (_:Nat) (_:Nat) (_:Bool) (_:X) (_:List AV) (_:ab):Option (Nx×ab):=none
def M7 (_:Nat) (_:X) (_:X) (_:List AV) (_:ab):Option (Nx×ab):=none
def GU (_:Nat) (_:Nat) (_:X) (_:X) (_:List AV) (_:ab):Option (Nx×ab):=none
def Mp (_:Nat) (_:Nat) (_:Bool) (_:X) (_:X) (_:List AV) (_:ab):Option (Nx×ab):=none
def Nz (_:X) (_:X) (_:List AV) (_:ab):Option (Nx×ab):=none
def MR (_:BinOp) (_:EqK) (_:X) (_:X) (_:List AV) (_:ab):Option (Nx×ab):=none
def NX (_:UnOp) (_:X) (_:List AV) (_:ab):Option (Nx×ab):=none
def KW (_:CvK) (_:X) (_:List AV) (_:ab):Option (Nx×ab):=none
def Jf (_:TypeId) (_:X) (_:List AV) (_:ab):Option (Nx×ab):=none
def Jr (_:FuncId) (_:List X) (_:List AV) (_:ab):Option (Nx×ab):=none
def Cg (_:Nat) (_:AV) (_:X) (_:X) (_:Bool) (_:List AV) (_:ab):Option (Nx×ab):=none
def za (_:TypeId) (_:AV) (_:X) (_:Bool) (_:List AV) (_:ab):Option (Nx×ab):=none
def Mq (_:X) (_:Nat) (_:List AV) (_:ab):Option (Nx×ab):=none
def Gw (_:Nat) (_:X) (_:Option X) (_:Option X) (_:List AV) (_:ab):Option (Nx×ab):=none
def H4 (_:X) (_:Option X) (_:Option X) (_:List AV) (_:ab):Option (Nx×ab):=none
def Jh (_:Nat) (_:X) (_:Option X) (_:Option X) (_:Option X) (_:List AV) (_:ab):Option (Nx×ab):=none
def ML (_:Nat) (_:X) (_:List AV) (_:ab):Option (Nx×ab):=none
def GC (_:X) (_:List AV) (_:ab):Option (Nx×ab):=none
def zP (_:Nat) (_:Nat) (_:List AV) (_:X) (_:X) (_:List AV) (_:ab):Option (Nx×ab):=none
def Hi (_:FuncId) (_:List X) (_:List AV) (_:ab):Option (Nx×ab):=none
def K3 (_:X) (_:X) (_:List AV) (_:ab):Option (Nx×ab):=none
def FK (_:Nat) (_:Nat) (_:X) (_:Option X) (_:Option X) (_:List AV) (_:ab):Option (Nx×ab):=none
def EG (_:Nat) (_:X) (_:List AV) (_:ab):Option (Nx×ab):=none
def Nn (_:List X) (_:List X) (_:List AV) (_:ab):Option (Nx×ab):=none
def Kj (_:X) (_:List AV) (_:ab):Option (Nx×ab):=none
def Kw (_:Nat) (_:Nat) (_:X) (_:X) (_:List AV) (_:ab):Option (Nx×ab):=none
def J2 (_:X) (_:X) (_:List AV) (_:ab):Option (Nx×ab):=none
def Iw (_:Nat) (_:Nat) (_:X) (_:X) (_:List AV) (_:ab):Option (Nx×ab):=none
def Jj (_:Nat) (_:Nat) (_:List AV) (_:X) (_:X) (_:List AV) (_:ab):Option (Nx×ab):=none
def Lg (o:AOp):List AV->ab->Option (Nx×ab):=
 AOp.casesOn (motive:=fun _=>List AV->ab->Option (Nx×ab)) o Ow KG F4 Mr FX Cb Cy N3 Jm El Ms Kb M7 GU Mp Nz MR NX KW Jf Jr HC Cg Hy za Mq Gw H4 Jh ML CV zV yX EE Ee Gn FO Ej LH GC zP xV Hi K3 IF FK EG Nn Kj Kw J2 M8 LI Fs IE Iw Jj DB
theorem Fg (o:AOp) (tm:List AV) (H:ab):Lg o tm H=bN o tm H:=by cases o<;>rfl
abbrev RX:=Option (Ex×Fr×ab)
def Km (fr:Fr) (k:AV->ab->RX) (o:Option (Out×ab)):RX:=
 match o with
 |some (.ret v,H)=>k v H
 |some (.pan c,H)=>some (.panic c,fr,H)
 |none=>none
def OR (rd:Option Nat) (k:RX):RX:=
 match rd with
 |some _=>none
 |none=>k
def N6 (cb:CB) (rd:Option Nat) (fr:Fr) (dst:Option Nat) (ih:Fr->ab->RX) (r:Option (Nx×ab)):RX:=
 match r with
 |some (.val v,H)=>ih ⟨bZ fr.tm dst v,fr.df⟩ H
 |some (.skip,H)=>ih ⟨bZ fr.tm dst (.tup []),fr.df⟩ H
 |some (.enter f args,H)=>Km fr (fun v H=>ih ⟨bZ fr.tm dst v,fr.df⟩ H) (dY cb f args H)
 |some (.dR rw f args,H)=>Km fr (fun v H=>ih ⟨bZ fr.tm dst v,fr.df⟩ H) (eL cb rw f args H)
 |some (.yield id args,H)=>Km fr (fun v H=>ih ⟨bZ fr.tm dst v,fr.df⟩ H) (cb.yl id args H)
 |some (.pan v,H)=>some (.panic [(v,false)],fr,H)
 |some (.dfr d,H)=>OR rd (ih ⟨bZ fr.tm dst (.tup []),d::fr.df⟩ H)
 |_=>none
def La (cb:CB) (rd:Option Nat) (o:ai) (ih:Fr->ab->RX) (fr:Fr) (H:ab) (v:Option AV):RX:=
 Option.casesOn (motive:=fun _=>RX) v (N6 cb rd fr o.dst ih (Lg o.op fr.tm H)) (fun v=>ih ⟨bZ fr.tm o.dst v,fr.df⟩ H)
def FE (cb:CB) (rd:Option Nat) (o:ai) (ih:Fr->ab->RX) (fr:Fr) (H:ab):RX:=
 Bool.casesOn (motive:=fun _=>RX) (bE fr.tm o.guard) (ih ⟨bZ fr.tm o.dst (.tup []),fr.df⟩ H) (La cb rd o ih fr H (Hk o.op fr.tm H))
def Pf (fr:Fr) (H:ab):RX:=some (.normal,fr,H)
def wh (cb:CB) (rd:Option Nat) (ops:List ai):Fr->ab->RX:=
 List.rec (motive:=fun _=>Fr->ab->RX) Pf (fun o _ ih=>FE cb rd o ih) ops
theorem gy (cb:CB) (rd:Option Nat):∀(ops:List ai) (fr:Fr) (H:ab),wh cb rd ops fr H=aV cb rd ops fr H
 |[],_,_=>rfl
 | o::r,fr,H=>by
   show FE cb rd o (wh cb rd r) fr H=_
   rw[aV];unfold FE La;rw[xg,Fg]
   cases bE fr.tm o.guard with
   |false=>simp only[Bool.false_eq_true,if_false];exact gy cb rd r _ _
   | true=>
     simp only[if_true]
     cases aU o.op fr.tm H with
     |some v=>exact gy cb rd r _ _
     | none=>
       dsimp only;unfold N6
       cases bN o.op fr.tm H with
       |none=>rfl
       | some p=>
         obtain⟨nx,H1⟩:=p
         have hout:∀q:Option (Out×ab),Km fr (fun v H=>wh cb rd r ⟨bZ fr.tm o.dst v,fr.df⟩ H) q=(match q with
             |some (.ret v,H'')=>aV cb rd r {fr with tm:=bZ fr.tm o.dst v} H''
             |some (.pan c,H'')=>some (.panic c,fr,H'')
             |none=>none):=by
           intro q
           cases q with
           |none=>rfl
           | some q=>
             obtain⟨o',H2⟩:=q
             cases o' with
             |ret v=>exact gy cb rd r _ _
             |pan c=>rfl
         cases nx with
         |val v=>exact gy cb rd r _ _
         |skip=>exact gy cb rd r _ _
         |enter f args=>exact hout _
         |dR rw f args=>exact hout _
         |yield id args=>exact hout _
         |pan v=>rfl
         |fE=>rfl
         | dfr d=>
           cases rd with
           |none=>exact gy cb none r _ _
           |some _=>rfl
def prF (g:Nat) (r:Option PR):Option (AV×Option aj):=
 match r with
 |some (.plain v)=>some (v,none)
 |some (.fresh sz n cs)=>some (.sl sz n cs (.own g),some (.tok sz))
 |some (.iO es)=>some (.mp g,some (.map es))
 |_=>none
def Pq (cb:CB) (H G:ab) (op:AOp) (tm:List AV) (g:Nat):Option (AV×Option aj):=
 match op with
 | .alloc zs=>some (.ptr g 0,some (.cells zs))
 | .lookup kk zero (.t i) k ok=>(aU (.lookup kk zero (.t i) k ok) tm G).map fun v=>(v,none)
 | .bw f args=>prF g (pcx cb f (args.map (·.ev tm)) H)
 | .ct x args=>
   match ig (x.ev tm) (args.map (·.ev tm))with
   |some (f,as)=>prF g (pcx cb f as H)
   |none=>none
 | .mI f args=>
   match pcx cb f (args.map (·.ev tm)) H with
   |some (.fresh sz n cs)=>if cs.all (·.lz)&&cs.length==n*sz then some (.msl sz g 0 n,some (.cells cs))else none
   |_=>none
 | .rZ x=>if aw (x.ev tm).flat then some (.ptr g 0,some (.cells (x.ev tm).flat))else none
 |op=>apX H.length op tm G g
def okF (v:AV):Option (AV×Option aj):=some (v,none)
def Mi (cb:CB) (H G:ab) (o:ai) (tm:List AV) (g:Nat):Option (AV×Option aj):=
 Bool.casesOn (motive:=fun _=>Option (AV×Option aj)) (bE tm o.guard) (okF (.tup [])) (Option.casesOn (motive:=fun _=>Option (AV×Option aj)) (Hk o.op tm H) (Pq cb H G o.op tm g) okF)
theorem JD (cb:CB) (H G:ab) (o:ai) (tm:List AV) (g:Nat):Mi cb H G o tm g=ap1 cb H G o tm g:=by
 unfold Mi ap1;rw[xg]
 cases bE tm o.guard with
 |false=>rfl
 | true=>
   simp only[if_true]
   cases aU o.op tm H with
   |some v=>rfl
   | none=>
     dsimp only
     cases o.op<;>first|rfl|skip
abbrev PX:=Option (List AV×List aj)
def O1 (tm:List AV) (e:List aj):PX:=some (tm,e)
def L3 (cb:CB) (H:ab) (o:ai) (ih:List AV->List aj->PX) (tm:List AV) (e:List aj):PX:=
 match Mi cb H (H++e) o tm (H.length+e.length)with
 |some (v,k)=>ih (bZ tm o.dst v) (kD H.length (bR o tm) (e++k.toList))
 |none=>none
def Ez (cb:CB) (H:ab) (ops:List ai):List AV->List aj->PX:=
 List.rec (motive:=fun _=>List AV->List aj->PX) O1 (fun o _ ih=>L3 cb H o ih) ops
theorem yh (cb:CB) (H:ab):∀(ops:List ai) (tm:List AV) (e:List aj),Ez cb H ops tm e=jv cb H ops tm e
 |[],_,_=>rfl
 | o::r,tm,e=>by
   show L3 cb H o (Ez cb H r) tm e=_
   rw[jv];unfold L3;rw[JD]
   cases ap1 cb H (H++e) o tm (H.length+e.length)with
   |none=>rfl
   |some p=>exact yh cb H r _ _
def Mg (iha ihb:Fr->ab->RX) (fr:Fr) (H:ab):RX:=
 match iha fr H with
 |some (.normal,fr',H')=>ihb fr' H'
 |r=>r
def HO (x:X) (iha ihb:Fr->ab->RX) (fr:Fr) (H:ab):RX:=
 match x.ev fr.tm with
 | .bool b=>Bool.casesOn (motive:=fun _=>RX) b (ihb fr H) (iha fr H)
 |_=>none
def zT (id:Nat) (iha:Fr->ab->RX) (fr:Fr) (H:ab):RX:=
 match iha fr H with
 |some (.exit id',fr',H')=>if id'=id then some (.normal,fr',H')else some (.exit id',fr',H')
 |r=>r
def HA (cb:CB) (rd:Option Nat) (a:aD) (iha:Fr->ab->RX) (fr:Fr) (H:ab):RX:=
 match iha fr H with
 |some (.normal,fr',H')=>cb.run rd (.loop a) fr' H'
 |r=>r
def zF (cb:CB) (rd:Option Nat) (pre tail:List ai) (fr:Fr) (H:ab):RX:=
 match Ez cb H pre fr.tm [] with
 |some (tm,e)=>wh cb rd tail {fr with tm:=tm} (H++e)
 |none=>none
def nI (cb:CB) (rd:Option Nat) (w:aD) (iha:Fr->ab->RX) (fr:Fr) (H:ab):RX:=
 match iha fr H with
 | some (.goto l,fr',H')=>
   match eZ w l with
   |some rest=>cb.run rd (.b9 w rest) fr' H'
   |none=>some (.goto l,fr',H')
 |r=>r
def Ls (fr:Fr) (H:ab):RX:=some (.normal,fr,H)
def NY (id:Nat) (fr:Fr) (H:ab):RX:=some (.exit id,fr,H)
def NI (l:Nat) (fr:Fr) (H:ab):RX:=some (.goto l,fr,H)
def Pm (fr:Fr) (H:ab):RX:=some (.ret,fr,H)
def Mv (cb:CB) (rd:Option Nat) (x:X) (ps:List Nat) (as bd:aD) (fr:Fr) (H:ab):RX:=aN cb rd (.range x ps as bd) fr H
def fP (cb:CB) (rd:Option Nat) (c:aD):Fr->ab->RX:=
 aD.rec (motive:=fun _=>Fr->ab->RX) Ls (fun ops=>wh cb rd ops) (fun p t=>zF cb rd p t) (fun _ _ iha ihb=>Mg iha ihb) (fun x _ _ iha ihb=>HO x iha ihb) (fun id _ iha=>zT id iha)
   (fun a iha=>HA cb rd a iha) (fun x ps as bd _ _=>Mv cb rd x ps as bd) NY (fun a iha=>nI cb rd a iha) (fun w _ _ iha=>nI cb rd w iha) (fun _=>Ls) NI Pm c
theorem tW (cb:CB) (rd:Option Nat) (c:aD):∀(fr:Fr) (H:ab),fP cb rd c fr H=aN cb rd c fr H:=by
 induction c with
 |region ops=>intro fr H;exact gy cb rd ops fr H
 | drawn p t=>
   intro fr H;show zF cb rd p t fr H=_
   rw[aN,zF,yh]
   cases jv cb H p fr.tm [] with
   |none=>rfl
   |some q=>exact gy _ _ _ _ _
 | seq a b iha ihb=>
   intro fr H;show Mg (fP cb rd a) (fP cb rd b) fr H=_
   rw[aN,Mg,iha]
   cases aN cb rd a fr H with
   |none=>rfl
   |some q=>obtain⟨e,fr',H'⟩:=q;cases e<;>first|rfl|exact ihb _ _
 | cond x a b iha ihb=>
   intro fr H;show HO x (fP cb rd a) (fP cb rd b) fr H=_
   rw[aN,HO]
   cases x.ev fr.tm with
   | bool b'=>
     cases b' with
     |true=>exact iha _ _
     |false=>exact ihb _ _
   |_=>rfl
 | block id a iha=>
   intro fr H;show zT id (fP cb rd a) fr H=_
   rw[aN,zT,iha]
   cases aN cb rd a fr H with
   |none=>rfl
   |some q=>obtain⟨e,fr',H'⟩:=q;cases e<;>rfl
 | loop a iha=>
   intro fr H;show HA cb rd a (fP cb rd a) fr H=_
   rw[aN,HA,iha]
   cases aN cb rd a fr H with
   |none=>rfl
   |some q=>obtain⟨e,fr',H'⟩:=q;cases e<;>rfl
 | scope a iha=>
   intro fr H;show nI cb rd a (fP cb rd a) fr H=_
   rw[aN,nI,iha]
   cases aN cb rd a fr H with
   |none=>rfl
   |some q=>obtain⟨e,fr',H'⟩:=q;cases e<;>rfl
 | b9 w a _ iha=>
   intro fr H;show nI cb rd w (fP cb rd a) fr H=_
   rw[aN,nI,iha]
   cases aN cb rd a fr H with
   |none=>rfl
   |some q=>obtain⟨e,fr',H'⟩:=q;cases e<;>rfl
 |_=>intro fr H;rfl
def AY (tab:FuncId->Option av) (cb:CB) (fi:av) (args:List AV) (H:ab):Option (Out×ab):=
 match fP cb none fi.body (fr0 fi.np args) H with
 | some (e,fr,H1)=>
   match (match e with| .normal| .ret=>some Mode.returning| .panic c=>some (Mode.panicking c)|_=>none)with
   | some u=>
     match b6 tab cb fr.df u H1 with
     |some (.returning,H2)=>(lQ fr.tm H2 fi.res).map fun vs=>(.ret (ae vs),H2)
     |some (.panicking c,H2)=>some (.pan c,H2)
     |none=>none
   |none=>none
 |none=>none
theorem wI (tab:FuncId->Option av) (cb:CB) (fi:av) (args:List AV) (H:ab):AY tab cb fi args H=gx tab cb fi args H:=by
 unfold AY gx;rw[tW]
 cases aN cb none fi.body (fr0 fi.np args) H with
 |none=>rfl
 | some q=>
   obtain⟨e,fr,H1⟩:=q
   cases e with
   | normal=>
     dsimp only
     cases b6 tab cb fr.df .returning H1 with
     |none=>rfl
     |some p=>obtain⟨m,H2⟩:=p;cases m<;>rfl
   | ret=>
     dsimp only
     cases b6 tab cb fr.df .returning H1 with
     |none=>rfl
     |some p=>obtain⟨m,H2⟩:=p;cases m<;>rfl
   | panic c=>
     dsimp only
     cases b6 tab cb fr.df (.panicking c) H1 with
     |none=>rfl
     |some p=>obtain⟨m,H2⟩:=p;cases m<;>rfl
   |exit _=>rfl
   |goto _=>rfl
def pcF (tab:FuncId->Option av) (cb:CB) (f:FuncId) (args:List AV):Option PR:=
 match tab f with
 | some fi=>match fi.con with
   |some g=>g args
   |none=>if bG fi args then r9 fi.mode (AY tab cb fi (args.map aE) [])else none
 |none=>none
def icF (tab:FuncId->Option av) (cb:CB) (f:FuncId) (args:List AV) (H:ab):Option (Out×ab):=
 match tab f with
 | some fi=>if fi.con.isSome||bG fi args then none else match fi.nC with
   |some g=>g args H
   |none=>AY tab cb fi args H
 |none=>none
theorem L4 (tab:FuncId->Option av) (cb:CB) (f:FuncId) (args:List AV):pcF tab cb f args=pcA tab cb f args:=by
 unfold pcF pcA;simp only[wI]
 cases tab f<;>rfl
theorem MJ (tab:FuncId->Option av) (cb:CB) (f:FuncId) (args:List AV) (H:ab):icF tab cb f args H=icA tab cb f args H:=by
 unfold icF icA;simp only[wI]
 cases tab f<;>rfl
def NR (tab:FuncId->Option av) (cb:CB):CB:=⟨pcF tab cb,icF tab cb,ylA cb,fP cb,hZ tab⟩
def PB (tab:FuncId->Option av):Nat->CB:=
 Nat.rec ⟨fun _ _=>none,fun _ _ _=>none,fun _ _ _=>none,fun _ _ _ _=>none,hZ tab⟩ (fun _ ih=>NR tab ih)
def Ok (tab:FuncId->Option av) (known:FuncId->List AV->Option PR) (cb:CB):CB:=
 ⟨fun f args=>Option.casesOn (motive:=fun _=>Option PR) (known f args) (pcF tab cb f args) some,icF tab cb,ylA cb,fP cb,hZ tab⟩
def uG (tab:FuncId->Option av) (known:FuncId->List AV->Option PR):Nat->CB:=
 Nat.rec ⟨fun _ _=>none,fun _ _ _=>none,fun _ _ _=>none,fun _ _ _ _=>none,hZ tab⟩ (fun _ ih=>Ok tab known ih)
theorem Ad {tab:FuncId->Option av} {known:FuncId->List AV->Option PR} (hk:∀f args r,known f args=some r->(cbL tab).pc f args=some r):∀n,CB.Le (uG tab known n) (cbL tab)
 |0=>⟨fun _ _ _ h=>(by cases h),fun _ _ _ _ h=>(by cases h),fun _ _ _ _ h=>(by cases h),fun _ _ _ _ _ h=>(by cases h),fun f=>eF 0 f,fun _ _ _ _ h=>(by cases h)⟩
 | n+1=>by
   have ih:=Ad hk n
   have hi:∀f args H r,(uG tab known (n+1)).ic f args H=some r->(cbL tab).ic f args H=some r:=by
     intro f args H r h;have h:icF tab (uG tab known n) f args H=some r:=h;rw[MJ]at h;exact HE (vK ih (fun _ _ h=>h) h)
   refine⟨?_,hi, ?_, ?_,fun f=>eF (n+1) f, ?_⟩
   . intro f args r h;have h:Option.casesOn (motive:=fun _=>Option PR) (known f args) (pcF tab (uG tab known n) f args) some=some r:=h
     cases hk2:known f args with
     | some q=>
       rw[hk2]at h;cases h;exact hk f args _ hk2
     | none=>
       rw[hk2]at h;have h:pcF tab (uG tab known n) f args=some r:=h;rw[L4]at h;exact se (yj ih (fun _ _ h=>h) h)
   . intro id args H r h;have h:ylA (uG tab known n) id args H=some r:=h;exact Lx (yq ih h)
   . intro rd c fr H r h;have h:fP (uG tab known n) rd c fr H=some r:=h;rw[tW]at h;exact DA (bQ ih _ _ _ _ h)
   . intro f args H r h;obtain⟨m,hm⟩:=ik.1 (hi f args H r h);exact(rE m).sep _ _ _ _ hm
theorem HV {tab:FuncId->Option av} {known:FuncId->List AV->Option PR} (hk:∀f args r,known f args=some r->(cbL tab).pc f args=some r) (n:Nat) {f:FuncId} {args:List AV} {r:PR} (h:(uG tab known n).pc f args=some r):(cbL tab).pc f args=some r:=
 (Ad hk n).pc f args r h
end
end Go.Am
