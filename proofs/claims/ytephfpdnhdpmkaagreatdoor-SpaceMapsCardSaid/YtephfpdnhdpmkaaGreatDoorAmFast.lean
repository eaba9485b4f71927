/- THE INTERPRETER ONCE MORE, for the kernel to run: each branch is a constant of its own, so that a step makes small terms; and it is the same. No condition. -/
import Derived.Test.YtephfpdnhdpmkaaGreatDoorAmLim
set_option linter.all false
namespace Go.Am
open Go
noncomputable section
def Nj (x:X) (tm:List AV) (H:ab):Option AV:=
 some (x.ev tm)
def HR (c:X) (a:X) (b:X) (tm:List AV) (H:ab):Option AV:=
 match c.ev tm with
   | .bool t=>some (if t then a.ev tm else b.ev tm)
   |_=>none
def Db (zs:List AV) (ps:List (Nat×Nat×X)) (tm:List AV) (H:ab):Option AV:=
 (dJ zs (evP tm ps)).map .agg
def CH (sz:Nat) (len:Nat) (zs:List AV) (ps:List (Nat×Nat×X)) (tm:List AV) (H:ab):Option AV:=
 match dJ zs (evP tm ps)with
   |some cs=>if aA cs&&cs.length==len*sz then some (.sl sz len cs (if len=0 then .e else .ro))else none
   |none=>none
def Cx (sz:Nat) (len:Nat) (zs:List AV) (ps:List (Nat×Nat×X)) (tm:List AV) (H:ab):Option AV:=
 match dJ zs (evP tm ps)with
   |some cs=>if aA cs&&cs.length==len*sz then some (.sl sz len cs .e)else none
   |none=>none
def NF (mx:Bool) (x:X) (y:X) (tm:List AV) (H:ab):Option AV:=
 match x.ev tm,y.ev tm with
   | .int k a,.int _ b=>some (.int k (if mx then(if a<b then b else a)else(if b<a then b else a)))
   |_,_=>none
def Jy (sz:Nat) (ag:Bool) (x:X) (tm:List AV) (H:ab):Option AV:=
 match x.ev tm with
   | .ptr id off=>match H[id]? with
     |some (.cells cs)=>dK cs off sz ag
     |_=>none
   | .bU cs=>dK cs 0 sz ag
   |_=>none
def Lr (off:Nat) (x:X) (tm:List AV) (H:ab):Option AV:=
 match x.ev tm with
   | .ptr id o=>some (.ptr id (o+off))
   | .bU cs=>some (.bU (cs.drop off))
   |_=>none
def Jd (off:Nat) (sz:Nat) (ag:Bool) (x:X) (tm:List AV) (H:ab):Option AV:=
 match x.ev tm with
   | .agg cs=>dK cs off sz ag
   |_=>none
def Mv (sz:Nat) (x:X) (i:X) (tm:List AV) (H:ab):Option AV:=
 match x.ev tm,i.ev tm with
   | .sl sz' n cs _,.int _ j=>if sz=sz'/\0<=j/\j<n then some (.bU (cs.drop (j.toNat*sz)))else none
   | .msl sz' id off n,.int _ j=>if sz=sz'/\0<=j/\j<n then some (.ptr id (off+j.toNat*sz))else none
   | .rsl sz' id n,.int _ j=>if sz=sz'/\0<=j/\j<n then some (.ptr id (j.toNat*sz))else none
   |_,_=>none
def EC (n:Nat) (sz:Nat) (x:X) (i:X) (tm:List AV) (H:ab):Option AV:=
 match x.ev tm,i.ev tm with
   | .ptr id off,.int _ j=>if 0<=j/\j<n then some (.ptr id (off+j.toNat*sz))else none
   | .bU cs,.int _ j=>if 0<=j/\j<n then some (.bU (cs.drop (j.toNat*sz)))else none
   |_,_=>none
def Lu (n:Nat) (sz:Nat) (ag:Bool) (x:X) (i:X) (tm:List AV) (H:ab):Option AV:=
 match x.ev tm,i.ev tm with
   | .agg cs,.int _ j=>if 0<=j/\j<n then dK cs (j.toNat*sz) sz ag else none
   |_,_=>none
def MA (x:X) (i:X) (tm:List AV) (H:ab):Option AV:=
 match x.ev tm,i.ev tm with
   | .str s,.int _ j=>if 0<=j then(s[j.toNat]?).map fun b=> .int .u8 b.toNat else none
   |_,_=>none
def LQ (op:BinOp) (ek:EqK) (x:X) (y:X) (tm:List AV) (H:ab):Option AV:=
 bE op ek x y (x.ev tm) (y.ev tm)
def NH (op:UnOp) (x:X) (tm:List AV) (H:ab):Option AV:=
 unV op (x.ev tm)
def Jz (k:CvK) (x:X) (tm:List AV) (H:ab):Option AV:=
 match k,x.ev tm with
   | .int k,.int _ n=>some (.int k (k.wrap n))
   | .same,.str s=>some (.str s)
   | .s2b,.str s=>if s.size<=70368744177664 then some (.sl 1 s.size (jj s) .ro)else none
   | .b2s,.sl sz n cs _=>if sz=1∨n=0 then(gO (cs.take n)).map fun l=> .str ⟨l.toArray⟩else none
   |_,_=>none
def IU (t:TypeId) (x:X) (tm:List AV) (H:ab):Option AV:=
 some (.iface t (x.ev tm))
def Mm (lx:List X) (sx:List X) (tm:List AV) (H:ab):Option AV:=
 if ck (lx.map (·.ev tm)) (sx.map (·.ev tm))then some (.tup [])else none
def ID (x:X) (tm:List AV) (H:ab):Option AV:=
 if aA (x.ev tm).flat then some (.bU (x.ev tm).flat)else none
def Jo (sz:Nat) (bytes:Nat) (x:X) (y:X) (tm:List AV) (H:ab):Option AV:=
 match x.ev tm,y.ev tm with
   | .sl sz' 0 [] .e,.sl sz'' m ds _=>
     if 0<sz/\m*bytes<=70368744177664/\m<=70368744177664/\m≠0/\sz''=sz/\m*sz<=ds.length/\aA (ds.take (m*sz))=true then some (.sl sz m (ds.take (m*sz)) .ro)
     else if m=0 then some (.sl sz' 0 [] .e)else none
   |_,_=>none
def H9 (f:FuncId) (caps:List X) (tm:List AV) (H:ab):Option AV:=
 some (.fn f (caps.map (·.ev tm)))
def F9 (f:FuncId) (fs:List X) (tm:List AV) (H:ab):Option AV:=
 some (.bnd f (fs.map (·.ev tm)))
def J3 (x:X) (c:X) (tm:List AV) (H:ab):Option AV:=
 match x.ev tm,c.ev tm with
   | .str s,.int .u8 k=>some (K3 (rA (UInt8.ofNat k.toNat) s.data.toList))
   |_,_=>none
def JO (x:X) (c:X) (tm:List AV) (H:ab):Option AV:=
 match x.ev tm,c.ev tm with
   | .str s,.int .u8 k=>some (.int .i64 (s.data.toList.count (UInt8.ofNat k.toNat):Nat))
   |_,_=>none
def yB (sz:Nat) (bytes:Nat) (zs:List AV) (l:X) (c:X) (tm:List AV) (H:ab):Option AV:=
 match eo sz bytes zs (l.ev tm) (c.ev tm)with
   |some n=>some (.sl sz n (bX n zs) .e)
   |none=>none
def CV (kk:Nat) (zero:AV) (x:X) (i:X) (ok:Bool) (tm:List AV) (H:ab):Option AV:=
 match x.ev tm with
   | .fj=>match bk kk (i.ev tm) (i.ev tm)with
     |some _=>some (if ok then .tup [zero,.bool false] else zero)
     |none=>none
   | .mp id=>match H[id]? with
     | some (.map es)=>match bk kk (i.ev tm) (i.ev tm),cw kk (i.ev tm) es 0 with
       |some _,some (some (_,v))=>some (if ok then .tup [v,.bool true] else v)
       |some _,some none=>some (if ok then .tup [zero,.bool false] else zero)
       |_,_=>none
     |_=>none
   |_=>none
def yz (t:TypeId) (zero:AV) (x:X) (ok:Bool) (tm:List AV) (H:ab):Option AV:=
 match x.ev tm with
   | .iface t' v=>if t'=t then some (if ok then .tup [v,.bool true] else v)else if ok then some (.tup [zero,.bool false])else none
   | .fI=>if ok then some (.tup [zero,.bool false])else none
   |_=>none
def ME (x:X) (i:Nat) (tm:List AV) (H:ab):Option AV:=
 match x.ev tm with
   | .tup vs=>vs[i]?
   |_=>none
def Ez (sz:Nat) (x:X) (lo:Option X) (hi:Option X) (tm:List AV) (H:ab):Option AV:=
 match x.ev tm with
   | .sl sz' n cs tk=>match bound tm lo 0,bound tm hi n with
     | some l,some h=>
       if sz=sz'/\0<sz/\l<=h/\h*sz<=cs.length then
         some (if l=0/\h=n then .sl sz n cs tk else .sl sz (h-l) (cs.drop (l*sz)) .ro)
       else if tk.isZ=true/\l=0/\h=0 then some (.sl sz' n cs tk)else none
     |_,_=>none
   | .msl sz' id off n=>match bound tm lo 0,bound tm hi n with
     |some l,some h=>if sz=sz'/\0<sz/\l<=h/\h<=n then some (if l=h then .sl sz 0 [] .ro else .msl sz id (off+l*sz) (h-l))else none
     |_,_=>none
   |_=>none
def Jw (sz:Nat) (x:X) (lo:Option X) (hi:Option X) (mx:Option X) (tm:List AV) (H:ab):Option AV:=
 match x.ev tm with
   | .sl sz' n cs tk=>match bound tm lo 0,bound tm hi n,bound tm mx n with
     | some l,some h,some m=>
       if sz=sz'/\0<sz/\l<=h/\h=m/\h*sz<=cs.length/\tk.isZ=false then
         some (.sl sz (h-l) ((cs.take (h*sz)).drop (l*sz)) .ro)
       else none
     |_,_,_=>none
   | .msl sz' id off n=>match bound tm lo 0,bound tm hi n,bound tm mx n with
     |some l,some h,some m=>if sz=sz'/\0<sz/\l<=h/\h=m/\h<=n then some (if l=h then .sl sz 0 [] .ro else .msl sz id (off+l*sz) (h-l))else none
     |_,_,_=>none
   |_=>none
def Fv (x:X) (lo:Option X) (hi:Option X) (tm:List AV) (H:ab):Option AV:=
 match x.ev tm with
   | .str s=>match bound tm lo 0,bound tm hi s.size with
     |some l,some h=>if l<=h/\h<=s.size then some (.str (s.extract l h))else none
     |_,_=>none
   |_=>none
def EP (n:Nat) (sz:Nat) (x:X) (lo:Option X) (hi:Option X) (tm:List AV) (H:ab):Option AV:=
 match x.ev tm with
   | .ptr id off=>match bound tm lo 0,bound tm hi n with
     |some l,some h=>if l<=h/\h<=n then some (if l=h then .sl sz 0 [] .ro else .msl sz id (off+l*sz) (h-l))else none
     |_,_=>none
   | .bU cs=>match bound tm lo 0,bound tm hi n with
     |some l,some h=>if l<=h/\h<=n/\n*sz<=cs.length then some (if l=h then .sl sz 0 [] .ro else .sl sz (h-l) ((cs.take (n*sz)).drop (l*sz)) .ro)else none
     |_,_=>none
   |_=>none
def FW (n:Nat) (x:X) (tm:List AV) (H:ab):Option AV:=
 match x.ev tm with
   | .sl _ m cs _=>if 0<n/\n<=m then some (.bU cs)else none
   | .msl _ id off m=>if n<=m then some (.ptr id off)else none
   |_=>none
def ML (k:Nat) (x:X) (tm:List AV) (H:ab):Option AV:=
 match k,x.ev tm with
   |0,.sl _ n _ _=>some (.int .i64 n)
   |0,.msl _ _ _ n=>some (.int .i64 n)
   |0,.rsl _ _ n=>some (.int .i64 n)
   |1,.str s=>some (.int .i64 s.size)
   |2,.fj=>some (.int .i64 0)
   | 2,.mp id=>match H[id]? with
     |some (.map es)=>some (.int .i64 es.length)
     |_=>none
   |_,_=>none
def Hf (x:X) (tm:List AV) (H:ab):Option AV:=
 match x.ev tm with
   | .ptr id off=>some (.ptr id off)
   | .bU cs=>some (.bU cs)
   | .fn f cs=>some (.fn f cs)
   | .bnd f cs=>some (.bnd f cs)
   | .iface t v=>some (.iface t v)
   |_=>none
def ER (_:List AV) (_:List AV) (_:ab):Option AV:=none
def Mn (_:X) (_:List AV) (_:ab):Option AV:=none
def DV (_:Nat) (_:X) (_:X) (_:List AV) (_:ab):Option AV:=none
def Hg (_:List AV) (_:ab):Option AV:=none
def DY (_:Nat) (_:X) (_:X) (_:X) (_:List AV) (_:ab):Option AV:=none
def Cg (_:Nat) (_:Nat) (_:X) (_:X) (_:List AV) (_:ab):Option AV:=none
def yS (_:Nat) (_:Nat) (_:X) (_:X) (_:List AV) (_:ab):Option AV:=none
def yA (_:Nat) (_:Nat) (_:X) (_:X) (_:List AV) (_:ab):Option AV:=none
def FU (_:FuncId) (_:List X) (_:List AV) (_:ab):Option AV:=none
def Dc (_:Bool) (_:FuncId) (_:List X) (_:List AV) (_:ab):Option AV:=none
def DE (_:X) (_:List X) (_:List AV) (_:ab):Option AV:=none
def DL (_:List AV) (_:ab):Option AV:=none
def DJ (_:X) (_:List AV) (_:ab):Option AV:=none
def Ms (_:X) (_:List X) (_:List AV) (_:ab):Option AV:=none
def we (_:Nat) (_:Nat) (_:List AV) (_:X) (_:X) (_:List AV) (_:ab):Option AV:=none
def JS (_:Nat) (_:Nat) (_:List AV) (_:X) (_:X) (_:List AV) (_:ab):Option AV:=none
def LP (_:Nat) (_:List AV) (_:X) (_:List AV) (_:ab):Option AV:=none
def Mx (_:Nat) (_:X) (_:X) (_:List AV) (_:ab):Option AV:=none
def GR (_:FuncId) (_:List X) (_:List AV) (_:ab):Option AV:=none
def JC (_:X) (_:List AV) (_:ab):Option AV:=none
def I1 (_:Nat) (_:Nat) (_:X) (_:X) (_:List AV) (_:ab):Option AV:=none
def I8 (_:Nat) (_:Nat) (_:List AV) (_:X) (_:X) (_:List AV) (_:ab):Option AV:=none
def G7 (_:Nat) (_:Nat) (_:List AV) (_:List (Nat×Nat×X)) (_:List AV) (_:ab):Option AV:=none
def Fl (o:AOp):List AV->ab->Option AV:=
 AOp.casesOn (motive:=fun _=>List AV->ab->Option AV) o Nj HR ER Mn Db CH Cx NF Jy DV Lr Jd Mv EC Lu MA LQ NH Jz IU H9 Hg CV DY yz ME Ez Fv Jw ML Cg yS yA FU Dc DE DL DJ Ms Hf yB we F9 J3 JS EP FW Mm ID Jo JO LP Mx GR JC I1 I8 G7
theorem vS (o:AOp) (tm:List AV) (H:ab):Fl o tm H=aT o tm H:=by cases o<;>rfl
def FH (zs:List AV) (tm:List AV) (H:ab):Option (Nx×ab):=
 some (.val (.ptr H.length 0),H++[.cells zs])
def LN (x:X) (tm:List AV) (H:ab):Option (Nx×ab):=
 if aA (x.ev tm).flat then some (.val (.ptr H.length 0),H++[.cells (x.ev tm).flat])else none
def Gv (sz:Nat) (a:X) (x:X) (tm:List AV) (H:ab):Option (Nx×ab):=
 match a.ev tm with
   | .ptr id off=>match H[id]? with
     | some (.cells cs)=>
       if(x.ev tm).flat.length=sz/\off+sz<=cs.length/\aA (x.ev tm).flat then
         some (.skip,H.set id (.cells (cs.take off++(x.ev tm).flat++cs.drop (off+sz))))
       else none
     |_=>none
   |_=>none
def Lx (sz:Nat) (zs:List AV) (x:X) (tm:List AV) (H:ab):Option (Nx×ab):=
 match x.ev tm with
   | .sl _ 0 _ _=>some (.val (.tup []),H)
   | .msl sz' id off n=>match H[id]? with
     | some (.cells cs)=>
       if sz'=sz/\zs.length=sz/\n≠0/\off+n*sz<=cs.length/\aA zs=true then
         some (.val (.tup []),H.set id (.cells (cs.take off++bX n zs++cs.drop (off+n*sz))))
       else none
     |_=>none
   |_=>none
def MM (sz:Nat) (x:X) (y:X) (tm:List AV) (H:ab):Option (Nx×ab):=
 match x.ev tm,rowOf H (y.ev tm)with
   | .msl sz' id off n,.sl sz'' m ds _=>match H[id]? with
     | some (.cells cs)=>
       if m=0 then some (.val (.int .i64 0),H)
       else if sz'=sz/\sz''=sz/\min m n*sz<=ds.length/\off+min m n*sz<=cs.length/\aA (ds.take (min m n*sz))=true then
         some (.val (.int .i64 (min m n:Nat)),H.set id (.cells (cs.take off++ds.take (min m n*sz)++cs.drop (off+min m n*sz))))
       else none
     |_=>none
   |_,_=>none
def Fe (tm:List AV) (H:ab):Option (Nx×ab):=
 some (.val (.mp H.length),H++[.map []])
def GY (kk:Nat) (x:X) (k:X) (v:X) (tm:List AV) (H:ab):Option (Nx×ab):=
 match x.ev tm with
   | .mp id=>match H[id]? with
     | some (.map es)=>match bk kk (k.ev tm) (k.ev tm),cw kk (k.ev tm) es 0 with
       |some _,some (some (i,_))=>some (.skip,H.set id (.map (es.set i (k.ev tm,v.ev tm))))
       |some _,some none=>some (.skip,H.set id (.map (es++[(k.ev tm,v.ev tm)])))
       |_,_=>none
     |_=>none
   |_=>none
def BQ (sz:Nat) (bytes:Nat) (x:X) (y:X) (tm:List AV) (H:ab):Option (Nx×ab):=
 eW sz bytes (x.ev tm) (rowOf H (y.ev tm)) H
def yR (sz:Nat) (bytes:Nat) (x:X) (y:X) (tm:List AV) (H:ab):Option (Nx×ab):=
 match x.ev tm,y.ev tm with
   | .sl sz' n cs tk,.sl sz'' m ds _=>
     if 0<sz/\(n+m)*bytes<=70368744177664/\n+m<=70368744177664 then
       if m≠0/\sz''=sz/\m*sz<=ds.length/\aA (ds.take (m*sz))/\n=0/\tk.empty then some (.val (.msl sz H.length 0 m),H++[.cells (ds.take (m*sz))])
       else if m=0/\tk.empty then some (.val (.sl sz' n cs tk),H)else none
     else none
   |_,_=>none
def yP (sz:Nat) (bytes:Nat) (x:X) (y:X) (tm:List AV) (H:ab):Option (Nx×ab):=
 kA sz bytes (x.ev tm) (y.ev tm) H
def DP (f:FuncId) (args:List X) (tm:List AV) (H:ab):Option (Nx×ab):=
 some (.enter f (args.map (·.ev tm)),H)
def GH (rw:Bool) (f:FuncId) (args:List X) (tm:List AV) (H:ab):Option (Nx×ab):=
 some (.dO rw f (args.map (·.ev tm)),H)
def Eo (f:FuncId) (args:List X) (tm:List AV) (H:ab):Option (Nx×ab):=
 some (.dO false f (args.map (·.ev tm)),H)
def JW (x:X) (tm:List AV) (H:ab):Option (Nx×ab):=
 if aA (x.ev tm).flat then some (.val (.ptr H.length 0),H++[.cells (x.ev tm).flat])else none
def DO (x:X) (args:List X) (tm:List AV) (H:ab):Option (Nx×ab):=
 match x.ev tm with
   | .fn f caps=>some (.enter f (args.map (·.ev tm)++caps),H)
   | .bnd f fs=>some (.enter f (fs++args.map (·.ev tm)),H)
   | .yld id=>some (.yield id (args.map (·.ev tm)),H)
   |_=>none
def Fz (tm:List AV) (H:ab):Option (Nx×ab):=
 some (.fy,H)
def D0 (x:X) (tm:List AV) (H:ab):Option (Nx×ab):=
 match x.ev tm with
   | .iface t v=>some (.pan (.iface t v),H)
   |_=>none
def K6 (x:X) (args:List X) (tm:List AV) (H:ab):Option (Nx×ab):=
 match x.ev tm with
   | .fn f caps=>some (.dfr (.call f (args.map (·.ev tm)++caps)),H)
   |_=>none
def wB (sz:Nat) (bytes:Nat) (zs:List AV) (l:X) (c:X) (tm:List AV) (H:ab):Option (Nx×ab):=
 match eo sz bytes zs (l.ev tm) (c.ev tm)with
   |some n=>some (.val (.msl sz H.length 0 n),H++[.cells (bX n zs)])
   |none=>none
def Gi (sz:Nat) (len:Nat) (zs:List AV) (ps:List (Nat×Nat×X)) (tm:List AV) (H:ab):Option (Nx×ab):=
 match dJ zs (evP tm ps)with
   |some cs=>if aA cs&&cs.length==len*sz then some (.val (.rsl sz H.length len),H++[.cells cs])else none
   |none=>none
def Kf (sz:Nat) (bytes:Nat) (zs:List AV) (x:X) (n:X) (tm:List AV) (H:ab):Option (Nx×ab):=
 match x.ev tm,eo sz bytes zs (n.ev tm) (n.ev tm)with
   | .sl sz' k cs (.own g),some m=>eW sz bytes (.sl sz' k cs (.own g)) (.sl sz m (bX m zs) .ro) H
   | .rsl sz' id k,some m=>kA sz bytes (.rsl sz' id k) (.sl sz m (bX m zs) .ro) H
   |_,_=>none
def M5 (_:X) (_:List AV) (_:ab):Option (Nx×ab):=none
def Jr (_:X) (_:X) (_:X) (_:List AV) (_:ab):Option (Nx×ab):=none
def EL (_:List AV) (_:List (Nat×Nat×X)) (_:List AV) (_:ab):Option (Nx×ab):=none
def CW (_:Nat) (_:Nat) (_:List AV) (_:List (Nat×Nat×X)) (_:List AV) (_:ab):Option (Nx×ab):=none
def Ce (_:Nat) (_:Nat) (_:List AV) (_:List (Nat×Nat×X)) (_:List AV) (_:ab):Option (Nx×ab):=none
def NC (_:Bool) (_:X) (_:X) (_:List AV) (_:ab):Option (Nx×ab):=none
def JN (_:Nat) (_:Bool) (_:X) (_:List AV) (_:ab):Option (Nx×ab):=none
def K8 (_:Nat) (_:X) (_:List AV) (_:ab):Option (Nx×ab):=none
def Kb (_:Nat) (_:Nat) (_:Bool) (_:X) (_:List AV) (_:ab):Option (Nx×ab):=none
def L7 (_:Nat) (_:X) (_:X) (_:List AV) (_:ab):Option (Nx×ab):=none
def GC (_:Nat) (_:Nat) (_:X) (_:X) (_:List AV) (_:ab):Option (Nx×ab):=none
def Lm (_:Nat) (_:Nat) (_:Bool) (_:X) (_:X) (_:List AV) (_:ab):Option (Nx×ab):=none
def LH (_:X) (_:X) (_:List AV) (_:ab):Option (Nx×ab):=none
def MJ (_:BinOp) (_:EqK) (_:X) (_:X) (_:List AV) (_:ab):Option (Nx×ab):=none
def Ny (_:UnOp) (_:X) (_:List AV) (_:ab):Option (Nx×ab):=none
def Ka (_:CvK) (_:X) (_:List AV) (_:ab):Option (Nx×ab):=none
def It (_:TypeId) (_:X) (_:List AV) (_:ab):Option (Nx×ab):=none
def IS (_:FuncId) (_:List X) (_:List AV) (_:ab):Option (Nx×ab):=none
def Cd (_:Nat) (_:AV) (_:X) (_:X) (_:Bool) (_:List AV) (_:ab):Option (Nx×ab):=none
def y8 (_:TypeId) (_:AV) (_:X) (_:Bool) (_:List AV) (_:ab):Option (Nx×ab):=none
def L4 (_:X) (_:Nat) (_:List AV) (_:ab):Option (Nx×ab):=none
def FI (_:Nat) (_:X) (_:Option X) (_:Option X) (_:List AV) (_:ab):Option (Nx×ab):=none
def EA (_:X) (_:Option X) (_:Option X) (_:List AV) (_:ab):Option (Nx×ab):=none
def Jx (_:Nat) (_:X) (_:Option X) (_:Option X) (_:Option X) (_:List AV) (_:ab):Option (Nx×ab):=none
def Md (_:Nat) (_:X) (_:List AV) (_:ab):Option (Nx×ab):=none
def GB (_:X) (_:List AV) (_:ab):Option (Nx×ab):=none
def yN (_:Nat) (_:Nat) (_:List AV) (_:X) (_:X) (_:List AV) (_:ab):Option (Nx×ab):=none
def Et (_:FuncId) (_:List X) (_:List AV) (_:ab):Option (Nx×ab):=none
def Ia (_:X) (_:X) (_:List AV) (_:ab):Option (Nx×ab):=none
def GF (_:Nat) (_:Nat) (_:X) (_:Option X) (_:Option X) (_:List AV) (_:ab):Option (Nx×ab):=none
def Hm (_:Nat) (_:X) (_:List AV) (_:ab):Option (Nx×ab):=none
def LJ (_:List X) (_:List X) (_:List AV) (_:ab):Option (Nx×ab):=none
def IA (_:X) (_:List AV) (_:ab):Option (Nx×ab):=none
def Jk (_:Nat) (_:Nat) (_:X) (_:X) (_:List AV) (_:ab):Option (Nx×ab):=none
def Kc (_:X) (_:X) (_:List AV) (_:ab):Option (Nx×ab):=none
def JX (_:Nat) (_:Nat) (_:X) (_:X) (_:List AV) (_:ab):Option (Nx×ab):=none
def HF (_:Nat) (_:Nat) (_:List AV) (_:X) (_:X) (_:List AV) (_:ab):Option (Nx×ab):=none
def KG (o:AOp):List AV->ab->Option (Nx×ab):=
 AOp.casesOn (motive:=fun _=>List AV->ab->Option (Nx×ab)) o M5 Jr FH LN EL CW Ce NC JN Gv K8 Kb L7 GC Lm LH MJ Ny Ka It IS Fe Cd GY y8 L4 FI EA Jx Md BQ yR yP DP GH DO Fz D0 K6 GB yN wB Et Ia Kf GF Hm LJ IA Jk Kc Lx MM Eo JW JX HF Gi
theorem FG (o:AOp) (tm:List AV) (H:ab):KG o tm H=bI o tm H:=by cases o<;>rfl
abbrev RX:=Option (Ex×Fr×ab)
def J8 (fr:Fr) (k:AV->ab->RX) (o:Option (Out×ab)):RX:=
 match o with
 |some (.ret v,H)=>k v H
 |some (.pan c,H)=>some (.panic c,fr,H)
 |none=>none
def NI (rd:Option Nat) (k:RX):RX:=
 match rd with
 |some _=>none
 |none=>k
def MW (cb:CB) (rd:Option Nat) (fr:Fr) (dst:Option Nat) (ih:Fr->ab->RX) (r:Option (Nx×ab)):RX:=
 match r with
 |some (.val v,H)=>ih ⟨bV fr.tm dst v,fr.df⟩ H
 |some (.skip,H)=>ih ⟨bV fr.tm dst (.tup []),fr.df⟩ H
 |some (.enter f args,H)=>J8 fr (fun v H=>ih ⟨bV fr.tm dst v,fr.df⟩ H) (dL cb f args H)
 |some (.dO rw f args,H)=>J8 fr (fun v H=>ih ⟨bV fr.tm dst v,fr.df⟩ H) (eE cb rw f args H)
 |some (.yield id args,H)=>J8 fr (fun v H=>ih ⟨bV fr.tm dst v,fr.df⟩ H) (cb.yl id args H)
 |some (.pan v,H)=>some (.panic [(v,false)],fr,H)
 |some (.dfr d,H)=>NI rd (ih ⟨bV fr.tm dst (.tup []),d::fr.df⟩ H)
 |_=>none
def KH (cb:CB) (rd:Option Nat) (o:ai) (ih:Fr->ab->RX) (fr:Fr) (H:ab) (v:Option AV):RX:=
 Option.casesOn (motive:=fun _=>RX) v (MW cb rd fr o.dst ih (KG o.op fr.tm H)) (fun v=>ih ⟨bV fr.tm o.dst v,fr.df⟩ H)
def Eg (cb:CB) (rd:Option Nat) (o:ai) (ih:Fr->ab->RX) (fr:Fr) (H:ab):RX:=
 Bool.casesOn (motive:=fun _=>RX) (bC fr.tm o.guard) (ih ⟨bV fr.tm o.dst (.tup []),fr.df⟩ H) (KH cb rd o ih fr H (Fl o.op fr.tm H))
def N7 (fr:Fr) (H:ab):RX:=some (.normal,fr,H)
def wW (cb:CB) (rd:Option Nat) (ops:List ai):Fr->ab->RX:=
 List.rec (motive:=fun _=>Fr->ab->RX) N7 (fun o _ ih=>Eg cb rd o ih) ops
theorem fS (cb:CB) (rd:Option Nat):∀(ops:List ai) (fr:Fr) (H:ab),wW cb rd ops fr H=aU cb rd ops fr H
 |[],_,_=>rfl
 | o::r,fr,H=>by
   show Eg cb rd o (wW cb rd r) fr H=_
   rw[aU];unfold Eg KH;rw[vS,FG]
   cases bC fr.tm o.guard with
   |false=>simp only[Bool.false_eq_true,if_false];exact fS cb rd r _ _
   | true=>
     simp only[if_true]
     cases aT o.op fr.tm H with
     |some v=>exact fS cb rd r _ _
     | none=>
       dsimp only;unfold MW
       cases bI o.op fr.tm H with
       |none=>rfl
       | some p=>
         obtain⟨nx,H1⟩:=p
         have hout:∀q:Option (Out×ab),J8 fr (fun v H=>wW cb rd r ⟨bV fr.tm o.dst v,fr.df⟩ H) q=(match q with
             |some (.ret v,H'')=>aU cb rd r {fr with tm:=bV fr.tm o.dst v} H''
             |some (.pan c,H'')=>some (.panic c,fr,H'')
             |none=>none):=by
           intro q
           cases q with
           |none=>rfl
           | some q=>
             obtain⟨o',H2⟩:=q
             cases o' with
             |ret v=>exact fS cb rd r _ _
             |pan c=>rfl
         cases nx with
         |val v=>exact fS cb rd r _ _
         |skip=>exact fS cb rd r _ _
         |enter f args=>exact hout _
         |dO rw f args=>exact hout _
         |yield id args=>exact hout _
         |pan v=>rfl
         |fy=>rfl
         | dfr d=>
           cases rd with
           |none=>exact fS cb none r _ _
           |some _=>rfl
def prF (g:Nat) (r:Option PR):Option (AV×Option av):=
 match r with
 |some (.plain v)=>some (v,none)
 |some (.fresh sz n cs)=>some (.sl sz n cs (.own g),some (.tok sz))
 |some (.ir es)=>some (.mp g,some (.map es))
 |_=>none
def NV (cb:CB) (H G:ab) (op:AOp) (tm:List AV) (g:Nat):Option (AV×Option av):=
 match op with
 | .alloc zs=>some (.ptr g 0,some (.cells zs))
 | .lookup kk zero (.t i) k ok=>(aT (.lookup kk zero (.t i) k ok) tm G).map fun v=>(v,none)
 | .br f args=>prF g (pcx cb f (args.map (·.ev tm)) H)
 | .cf x args=>
   match gR (x.ev tm) (args.map (·.ev tm))with
   |some (f,as)=>prF g (pcx cb f as H)
   |none=>none
 | .lP f args=>
   match pcx cb f (args.map (·.ev tm)) H with
   |some (.fresh sz n cs)=>if cs.all (·.iZ)&&cs.length==n*sz then some (.msl sz g 0 n,some (.cells cs))else none
   |_=>none
 | .rb x=>if aA (x.ev tm).flat then some (.ptr g 0,some (.cells (x.ev tm).flat))else none
 |op=>apX H.length op tm G g
def okF (v:AV):Option (AV×Option av):=some (v,none)
def LD (cb:CB) (H G:ab) (o:ai) (tm:List AV) (g:Nat):Option (AV×Option av):=
 Bool.casesOn (motive:=fun _=>Option (AV×Option av)) (bC tm o.guard) (okF (.tup [])) (Option.casesOn (motive:=fun _=>Option (AV×Option av)) (Fl o.op tm H) (NV cb H G o.op tm g) okF)
theorem H7 (cb:CB) (H G:ab) (o:ai) (tm:List AV) (g:Nat):LD cb H G o tm g=ap1 cb H G o tm g:=by
 unfold LD ap1;rw[vS]
 cases bC tm o.guard with
 |false=>rfl
 | true=>
   simp only[if_true]
   cases aT o.op tm H with
   |some v=>rfl
   | none=>
     dsimp only
     cases o.op<;>first|rfl|skip
abbrev PX:=Option (List AV×List av)
def NZ (tm:List AV) (e:List av):PX:=some (tm,e)
def L8 (cb:CB) (H:ab) (o:ai) (ih:List AV->List av->PX) (tm:List AV) (e:List av):PX:=
 match LD cb H (H++e) o tm (H.length+e.length)with
 |some (v,k)=>ih (bV tm o.dst v) (kx H.length (bM o tm) (e++k.toList))
 |none=>none
def Gx (cb:CB) (H:ab) (ops:List ai):List AV->List av->PX:=
 List.rec (motive:=fun _=>List AV->List av->PX) NZ (fun o _ ih=>L8 cb H o ih) ops
theorem uX (cb:CB) (H:ab):∀(ops:List ai) (tm:List AV) (e:List av),Gx cb H ops tm e=iW cb H ops tm e
 |[],_,_=>rfl
 | o::r,tm,e=>by
   show L8 cb H o (Gx cb H r) tm e=_
   rw[iW];unfold L8;rw[H7]
   cases ap1 cb H (H++e) o tm (H.length+e.length)with
   |none=>rfl
   |some p=>exact uX cb H r _ _
def Ln (iha ihb:Fr->ab->RX) (fr:Fr) (H:ab):RX:=
 match iha fr H with
 |some (.normal,fr',H')=>ihb fr' H'
 |r=>r
def G4 (x:X) (iha ihb:Fr->ab->RX) (fr:Fr) (H:ab):RX:=
 match x.ev fr.tm with
 | .bool b=>Bool.casesOn (motive:=fun _=>RX) b (ihb fr H) (iha fr H)
 |_=>none
def zm (id:Nat) (iha:Fr->ab->RX) (fr:Fr) (H:ab):RX:=
 match iha fr H with
 |some (.exit id',fr',H')=>if id'=id then some (.normal,fr',H')else some (.exit id',fr',H')
 |r=>r
def DU (cb:CB) (rd:Option Nat) (a:aH) (iha:Fr->ab->RX) (fr:Fr) (H:ab):RX:=
 match iha fr H with
 |some (.normal,fr',H')=>cb.run rd (.loop a) fr' H'
 |r=>r
def yG (cb:CB) (rd:Option Nat) (pre tail:List ai) (fr:Fr) (H:ab):RX:=
 match Gx cb H pre fr.tm [] with
 |some (tm,e)=>wW cb rd tail {fr with tm:=tm} (H++e)
 |none=>none
def m9 (cb:CB) (rd:Option Nat) (w:aH) (iha:Fr->ab->RX) (fr:Fr) (H:ab):RX:=
 match iha fr H with
 | some (.goto l,fr',H')=>
   match e7 w l with
   |some rest=>cb.run rd (.b7 w rest) fr' H'
   |none=>some (.goto l,fr',H')
 |r=>r
def KM (fr:Fr) (H:ab):RX:=some (.normal,fr,H)
def MQ (id:Nat) (fr:Fr) (H:ab):RX:=some (.exit id,fr,H)
def M0 (l:Nat) (fr:Fr) (H:ab):RX:=some (.goto l,fr,H)
def On (fr:Fr) (H:ab):RX:=some (.ret,fr,H)
def Mz (cb:CB) (rd:Option Nat) (x:X) (ps:List Nat) (as bd:aH) (fr:Fr) (H:ab):RX:=aN cb rd (.range x ps as bd) fr H
def fF (cb:CB) (rd:Option Nat) (c:aH):Fr->ab->RX:=
 aH.rec (motive:=fun _=>Fr->ab->RX) KM (fun ops=>wW cb rd ops) (fun p t=>yG cb rd p t) (fun _ _ iha ihb=>Ln iha ihb) (fun x _ _ iha ihb=>G4 x iha ihb) (fun id _ iha=>zm id iha)
   (fun a iha=>DU cb rd a iha) (fun x ps as bd _ _=>Mz cb rd x ps as bd) MQ (fun a iha=>m9 cb rd a iha) (fun w _ _ iha=>m9 cb rd w iha) (fun _=>KM) M0 On c
theorem rC (cb:CB) (rd:Option Nat) (c:aH):∀(fr:Fr) (H:ab),fF cb rd c fr H=aN cb rd c fr H:=by
 induction c with
 |region ops=>intro fr H;exact fS cb rd ops fr H
 | drawn p t=>
   intro fr H;show yG cb rd p t fr H=_
   rw[aN,yG,uX]
   cases iW cb H p fr.tm [] with
   |none=>rfl
   |some q=>exact fS _ _ _ _ _
 | seq a b iha ihb=>
   intro fr H;show Ln (fF cb rd a) (fF cb rd b) fr H=_
   rw[aN,Ln,iha]
   cases aN cb rd a fr H with
   |none=>rfl
   |some q=>obtain⟨e,fr',H'⟩:=q;cases e<;>first|rfl|exact ihb _ _
 | cond x a b iha ihb=>
   intro fr H;show G4 x (fF cb rd a) (fF cb rd b) fr H=_
   rw[aN,G4]
   cases x.ev fr.tm with
   | bool b'=>
     cases b' with
     |true=>exact iha _ _
     |false=>exact ihb _ _
   |_=>rfl
 | block id a iha=>
   intro fr H;show zm id (fF cb rd a) fr H=_
   rw[aN,zm,iha]
   cases aN cb rd a fr H with
   |none=>rfl
   |some q=>obtain⟨e,fr',H'⟩:=q;cases e<;>rfl
 | loop a iha=>
   intro fr H;show DU cb rd a (fF cb rd a) fr H=_
   rw[aN,DU,iha]
   cases aN cb rd a fr H with
   |none=>rfl
   |some q=>obtain⟨e,fr',H'⟩:=q;cases e<;>rfl
 | scope a iha=>
   intro fr H;show m9 cb rd a (fF cb rd a) fr H=_
   rw[aN,m9,iha]
   cases aN cb rd a fr H with
   |none=>rfl
   |some q=>obtain⟨e,fr',H'⟩:=q;cases e<;>rfl
 | b7 w a _ iha=>
   intro fr H;show m9 cb rd w (fF cb rd a) fr H=_
   rw[aN,m9,iha]
   cases aN cb rd a fr H with
   |none=>rfl
   |some q=>obtain⟨e,fr',H'⟩:=q;cases e<;>rfl
 |_=>intro fr H;rfl
def z6 (tab:FuncId->Option an) (cb:CB) (fi:an) (args:List AV) (H:ab):Option (Out×ab):=
 match fF cb none fi.body (fr0 fi.np args) H with
 | some (e,fr,H1)=>
   match (match e with| .normal| .ret=>some Mode.returning| .panic c=>some (Mode.panicking c)|_=>none)with
   | some u=>
     match b6 tab cb fr.df u H1 with
     |some (.returning,H2)=>(kT fr.tm H2 fi.res).map fun vs=>(.ret (ae vs),H2)
     |some (.panicking c,H2)=>some (.pan c,H2)
     |none=>none
   |none=>none
 |none=>none
theorem wu (tab:FuncId->Option an) (cb:CB) (fi:an) (args:List AV) (H:ab):z6 tab cb fi args H=fR tab cb fi args H:=by
 unfold z6 fR;rw[rC]
 cases aN cb none fi.body (fr0 fi.np args) H with
 |none=>rfl
 | some q=>
   obtain⟨e,fr,H1⟩:=q
   cases e with
   | normal=>
     dsimp only
     cases b6 tab cb fr.df .returning H1 with
     |none=>rfl
     |some p=>obtain⟨m,H2⟩:=p;cases m<;>rfl
   | ret=>
     dsimp only
     cases b6 tab cb fr.df .returning H1 with
     |none=>rfl
     |some p=>obtain⟨m,H2⟩:=p;cases m<;>rfl
   | panic c=>
     dsimp only
     cases b6 tab cb fr.df (.panicking c) H1 with
     |none=>rfl
     |some p=>obtain⟨m,H2⟩:=p;cases m<;>rfl
   |exit _=>rfl
   |goto _=>rfl
def pcF (tab:FuncId->Option an) (cb:CB) (f:FuncId) (args:List AV):Option PR:=
 match tab f with
 | some fi=>match fi.con with
   |some g=>g args
   |none=>if bF fi args then oj fi.mode (z6 tab cb fi (args.map aC) [])else none
 |none=>none
def icF (tab:FuncId->Option an) (cb:CB) (f:FuncId) (args:List AV) (H:ab):Option (Out×ab):=
 match tab f with
 | some fi=>if fi.con.isSome||bF fi args then none else match fi.mn with
   |some g=>g args H
   |none=>z6 tab cb fi args H
 |none=>none
theorem MH (tab:FuncId->Option an) (cb:CB) (f:FuncId) (args:List AV):pcF tab cb f args=pcA tab cb f args:=by
 unfold pcF pcA;simp only[wu]
 cases tab f<;>rfl
theorem MC (tab:FuncId->Option an) (cb:CB) (f:FuncId) (args:List AV) (H:ab):icF tab cb f args H=icA tab cb f args H:=by
 unfold icF icA;simp only[wu]
 cases tab f<;>rfl
def Np (tab:FuncId->Option an) (cb:CB):CB:=⟨pcF tab cb,icF tab cb,ylA cb,fF cb,gP tab⟩
def OR (tab:FuncId->Option an):Nat->CB:=
 Nat.rec ⟨fun _ _=>none,fun _ _ _=>none,fun _ _ _=>none,fun _ _ _ _=>none,gP tab⟩ (fun _ ih=>Np tab ih)
def NA (tab:FuncId->Option an) (known:FuncId->List AV->Option PR) (cb:CB):CB:=
 ⟨fun f args=>Option.casesOn (motive:=fun _=>Option PR) (known f args) (pcF tab cb f args) some,icF tab cb,ylA cb,fF cb,gP tab⟩
def uO (tab:FuncId->Option an) (known:FuncId->List AV->Option PR):Nat->CB:=
 Nat.rec ⟨fun _ _=>none,fun _ _ _=>none,fun _ _ _=>none,fun _ _ _ _=>none,gP tab⟩ (fun _ ih=>NA tab known ih)
theorem Af {tab:FuncId->Option an} {known:FuncId->List AV->Option PR} (hk:∀f args r,known f args=some r->(cbL tab).pc f args=some r):∀n,CB.Le (uO tab known n) (cbL tab)
 |0=>⟨fun _ _ _ h=>(by cases h),fun _ _ _ _ h=>(by cases h),fun _ _ _ _ h=>(by cases h),fun _ _ _ _ _ h=>(by cases h),fun f=>eh 0 f,fun _ _ _ _ h=>(by cases h)⟩
 | n+1=>by
   have ih:=Af hk n
   have hi:∀f args H r,(uO tab known (n+1)).ic f args H=some r->(cbL tab).ic f args H=some r:=by
     intro f args H r h;have h:icF tab (uO tab known n) f args H=some r:=h;rw[MC]at h;exact EE (wY ih (fun _ _ h=>h) h)
   refine⟨?_,hi, ?_, ?_,fun f=>eh (n+1) f, ?_⟩
   . intro f args r h;have h:Option.casesOn (motive:=fun _=>Option PR) (known f args) (pcF tab (uO tab known n) f args) some=some r:=h
     cases hk2:known f args with
     | some q=>
       rw[hk2]at h;cases h;exact hk f args _ hk2
     | none=>
       rw[hk2]at h;have h:pcF tab (uO tab known n) f args=some r:=h;rw[MH]at h;exact tq (u5 ih (fun _ _ h=>h) h)
   . intro id args H r h;have h:ylA (uO tab known n) id args H=some r:=h;exact Kq (x6 ih h)
   . intro rd c fr H r h;have h:fF (uO tab known n) rd c fr H=some r:=h;rw[rC]at h;exact DH (bK ih _ _ _ _ h)
   . intro f args H r h;obtain⟨m,hm⟩:=g7.1 (hi f args H r h);exact(pN m).sep _ _ _ _ hm
theorem C3 {tab:FuncId->Option an} {known:FuncId->List AV->Option PR} (hk:∀f args r,known f args=some r->(cbL tab).pc f args=some r) (n:Nat) {f:FuncId} {args:List AV} {r:PR} (h:(uO tab known n).pc f args=some r):(cbL tab).pc f args=some r:=
 (Af hk n).pc f args r h
end
end Go.Am
