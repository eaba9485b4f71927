/- THE INTERPRETER ONCE MORE, for the kernel to run: each branch is a constant of its own, so that a step makes small terms; and it is the same. No condition. -/
import Derived.Test.YtephfpdnhdpmkaaGreatDoorAmLim
set_option linter.all false
namespace Go.Am
open Go
noncomputable section
def fv_mv (x:X) (tm:List AV) (H:Heap):Option AV:=
 some (x.ev tm)
def fv_pick (c:X) (a:X) (b:X) (tm:List AV) (H:Heap):Option AV:=
 match c.ev tm with
   | .bool t=>some (if t then a.ev tm else b.ev tm)
   |_=>none
def fv_build (zs:List AV) (ps:List (Nat×Nat×X)) (tm:List AV) (H:Heap):Option AV:=
 (fillL zs (evP tm ps)).map .agg
def fv_bslice (sz:Nat) (len:Nat) (zs:List AV) (ps:List (Nat×Nat×X)) (tm:List AV) (H:Heap):Option AV:=
 match fillL zs (evP tm ps)with
   |some cs=>if allOne cs&&cs.length==len*sz then some (.sl sz len cs (if len=0 then .e else .ro))else none
   |none=>none
def fv_bsfull (sz:Nat) (len:Nat) (zs:List AV) (ps:List (Nat×Nat×X)) (tm:List AV) (H:Heap):Option AV:=
 match fillL zs (evP tm ps)with
   |some cs=>if allOne cs&&cs.length==len*sz then some (.sl sz len cs .e)else none
   |none=>none
def fv_mm (mx:Bool) (x:X) (y:X) (tm:List AV) (H:Heap):Option AV:=
 match x.ev tm,y.ev tm with
   | .int k a,.int _ b=>some (.int k (if mx then(if a<b then b else a)else(if b<a then b else a)))
   |_,_=>none
def fv_load (sz:Nat) (ag:Bool) (x:X) (tm:List AV) (H:Heap):Option AV:=
 match x.ev tm with
   | .ptr id off=>match H[id]? with
     |some (.cells cs)=>readC cs off sz ag
     |_=>none
   | .eptr cs=>readC cs 0 sz ag
   |_=>none
def fv_fld (off:Nat) (x:X) (tm:List AV) (H:Heap):Option AV:=
 match x.ev tm with
   | .ptr id o=>some (.ptr id (o+off))
   | .eptr cs=>some (.eptr (cs.drop off))
   |_=>none
def fv_part (off:Nat) (sz:Nat) (ag:Bool) (x:X) (tm:List AV) (H:Heap):Option AV:=
 match x.ev tm with
   | .agg cs=>readC cs off sz ag
   |_=>none
def fv_ixa (sz:Nat) (x:X) (i:X) (tm:List AV) (H:Heap):Option AV:=
 match x.ev tm,i.ev tm with
   | .sl sz' n cs _,.int _ j=>if sz=sz'/\0<=j/\j<n then some (.eptr (cs.drop (j.toNat*sz)))else none
   | .msl sz' id off n,.int _ j=>if sz=sz'/\0<=j/\j<n then some (.ptr id (off+j.toNat*sz))else none
   | .rsl sz' id n,.int _ j=>if sz=sz'/\0<=j/\j<n then some (.ptr id (j.toNat*sz))else none
   |_,_=>none
def fv_ixarr (n:Nat) (sz:Nat) (x:X) (i:X) (tm:List AV) (H:Heap):Option AV:=
 match x.ev tm,i.ev tm with
   | .ptr id off,.int _ j=>if 0<=j/\j<n then some (.ptr id (off+j.toNat*sz))else none
   | .eptr cs,.int _ j=>if 0<=j/\j<n then some (.eptr (cs.drop (j.toNat*sz)))else none
   |_,_=>none
def fv_ixv (n:Nat) (sz:Nat) (ag:Bool) (x:X) (i:X) (tm:List AV) (H:Heap):Option AV:=
 match x.ev tm,i.ev tm with
   | .agg cs,.int _ j=>if 0<=j/\j<n then readC cs (j.toNat*sz) sz ag else none
   |_,_=>none
def fv_ixs (x:X) (i:X) (tm:List AV) (H:Heap):Option AV:=
 match x.ev tm,i.ev tm with
   | .str s,.int _ j=>if 0<=j then(s[j.toNat]?).map fun b=> .int .u8 b.toNat else none
   |_,_=>none
def fv_bin (op:BinOp) (ek:EqK) (x:X) (y:X) (tm:List AV) (H:Heap):Option AV:=
 binV op ek x y (x.ev tm) (y.ev tm)
def fv_un (op:UnOp) (x:X) (tm:List AV) (H:Heap):Option AV:=
 unV op (x.ev tm)
def fv_conv (k:CvK) (x:X) (tm:List AV) (H:Heap):Option AV:=
 match k,x.ev tm with
   | .int k,.int _ n=>some (.int k (k.wrap n))
   | .same,.str s=>some (.str s)
   | .s2b,.str s=>if s.size<=70368744177664 then some (.sl 1 s.size (bytesA s) .ro)else none
   | .b2s,.sl sz n cs _=>if sz=1∨n=0 then(unbytes (cs.take n)).map fun l=> .str ⟨l.toArray⟩else none
   |_,_=>none
def fv_mkif (t:TypeId) (x:X) (tm:List AV) (H:Heap):Option AV:=
 some (.iface t (x.ev tm))
def fv_chk (lx:List X) (sx:List X) (tm:List AV) (H:Heap):Option AV:=
 if floatV (lx.map (·.ev tm)) (sx.map (·.ev tm))then some (.tup [])else none
def fv_boxe (x:X) (tm:List AV) (H:Heap):Option AV:=
 if allOne (x.ev tm).flat then some (.eptr (x.ev tm).flat)else none
def fv_appc (sz:Nat) (bytes:Nat) (x:X) (y:X) (tm:List AV) (H:Heap):Option AV:=
 match x.ev tm,y.ev tm with
   | .sl sz' 0 [] .e,.sl sz'' m ds _=>
     if 0<sz/\m*bytes<=70368744177664/\m<=70368744177664/\m≠0/\sz''=sz/\m*sz<=ds.length/\allOne (ds.take (m*sz))=true then some (.sl sz m (ds.take (m*sz)) .ro)
     else if m=0 then some (.sl sz' 0 [] .e)else none
   |_,_=>none
def fv_mkfn (f:FuncId) (caps:List X) (tm:List AV) (H:Heap):Option AV:=
 some (.fn f (caps.map (·.ev tm)))
def fv_mkbnd (f:FuncId) (fs:List X) (tm:List AV) (H:Heap):Option AV:=
 some (.bnd f (fs.map (·.ev tm)))
def fv_idxb (x:X) (c:X) (tm:List AV) (H:Heap):Option AV:=
 match x.ev tm,c.ev tm with
   | .str s,.int .u8 k=>some (idxV (idxB (UInt8.ofNat k.toNat) s.data.toList))
   |_,_=>none
def fv_cntb (x:X) (c:X) (tm:List AV) (H:Heap):Option AV:=
 match x.ev tm,c.ev tm with
   | .str s,.int .u8 k=>some (.int .i64 (s.data.toList.count (UInt8.ofNat k.toNat):Nat))
   |_,_=>none
def fv_mkslice (sz:Nat) (bytes:Nat) (zs:List AV) (l:X) (c:X) (tm:List AV) (H:Heap):Option AV:=
 match madeN sz bytes zs (l.ev tm) (c.ev tm)with
   |some n=>some (.sl sz n (repL n zs) .e)
   |none=>none
def fv_lookup (kk:Nat) (zero:AV) (x:X) (i:X) (ok:Bool) (tm:List AV) (H:Heap):Option AV:=
 match x.ev tm with
   | .nilm=>match cellEq kk (i.ev tm) (i.ev tm)with
     |some _=>some (if ok then .tup [zero,.bool false] else zero)
     |none=>none
   | .mp id=>match H[id]? with
     | some (.map es)=>match cellEq kk (i.ev tm) (i.ev tm),findA kk (i.ev tm) es 0 with
       |some _,some (some (_,v))=>some (if ok then .tup [v,.bool true] else v)
       |some _,some none=>some (if ok then .tup [zero,.bool false] else zero)
       |_,_=>none
     |_=>none
   |_=>none
def fv_tassert (t:TypeId) (zero:AV) (x:X) (ok:Bool) (tm:List AV) (H:Heap):Option AV:=
 match x.ev tm with
   | .iface t' v=>if t'=t then some (if ok then .tup [v,.bool true] else v)else if ok then some (.tup [zero,.bool false])else none
   | .nili=>if ok then some (.tup [zero,.bool false])else none
   |_=>none
def fv_ext (x:X) (i:Nat) (tm:List AV) (H:Heap):Option AV:=
 match x.ev tm with
   | .tup vs=>vs[i]?
   |_=>none
def fv_slice (sz:Nat) (x:X) (lo:Option X) (hi:Option X) (tm:List AV) (H:Heap):Option AV:=
 match x.ev tm with
   | .sl sz' n cs tk=>match bound tm lo 0,bound tm hi n with
     | some l,some h=>
       if sz=sz'/\0<sz/\l<=h/\h*sz<=cs.length then
         some (if l=0/\h=n then .sl sz n cs tk else .sl sz (h-l) (cs.drop (l*sz)) .ro)
       else if tk.isZ=true/\l=0/\h=0 then some (.sl sz' n cs tk)else none
     |_,_=>none
   | .msl sz' id off n=>match bound tm lo 0,bound tm hi n with
     |some l,some h=>if sz=sz'/\0<sz/\l<=h/\h<=n then some (if l=h then .sl sz 0 [] .ro else .msl sz id (off+l*sz) (h-l))else none
     |_,_=>none
   |_=>none
def fv_slc3 (sz:Nat) (x:X) (lo:Option X) (hi:Option X) (mx:Option X) (tm:List AV) (H:Heap):Option AV:=
 match x.ev tm with
   | .sl sz' n cs tk=>match bound tm lo 0,bound tm hi n,bound tm mx n with
     | some l,some h,some m=>
       if sz=sz'/\0<sz/\l<=h/\h=m/\h*sz<=cs.length/\tk.isZ=false then
         some (.sl sz (h-l) ((cs.take (h*sz)).drop (l*sz)) .ro)
       else none
     |_,_,_=>none
   | .msl sz' id off n=>match bound tm lo 0,bound tm hi n,bound tm mx n with
     |some l,some h,some m=>if sz=sz'/\0<sz/\l<=h/\h=m/\h<=n then some (if l=h then .sl sz 0 [] .ro else .msl sz id (off+l*sz) (h-l))else none
     |_,_,_=>none
   |_=>none
def fv_slstr (x:X) (lo:Option X) (hi:Option X) (tm:List AV) (H:Heap):Option AV:=
 match x.ev tm with
   | .str s=>match bound tm lo 0,bound tm hi s.size with
     |some l,some h=>if l<=h/\h<=s.size then some (.str (s.extract l h))else none
     |_,_=>none
   |_=>none
def fv_slarr (n:Nat) (sz:Nat) (x:X) (lo:Option X) (hi:Option X) (tm:List AV) (H:Heap):Option AV:=
 match x.ev tm with
   | .ptr id off=>match bound tm lo 0,bound tm hi n with
     |some l,some h=>if l<=h/\h<=n then some (if l=h then .sl sz 0 [] .ro else .msl sz id (off+l*sz) (h-l))else none
     |_,_=>none
   | .eptr cs=>match bound tm lo 0,bound tm hi n with
     |some l,some h=>if l<=h/\h<=n/\n*sz<=cs.length then some (if l=h then .sl sz 0 [] .ro else .sl sz (h-l) ((cs.take (n*sz)).drop (l*sz)) .ro)else none
     |_,_=>none
   |_=>none
def fv_s2arr (n:Nat) (x:X) (tm:List AV) (H:Heap):Option AV:=
 match x.ev tm with
   | .sl _ m cs _=>if 0<n/\n<=m then some (.eptr cs)else none
   | .msl _ id off m=>if n<=m then some (.ptr id off)else none
   |_=>none
def fv_len (k:Nat) (x:X) (tm:List AV) (H:Heap):Option AV:=
 match k,x.ev tm with
   |0,.sl _ n _ _=>some (.int .i64 n)
   |0,.msl _ _ _ n=>some (.int .i64 n)
   |0,.rsl _ _ n=>some (.int .i64 n)
   |1,.str s=>some (.int .i64 s.size)
   |2,.nilm=>some (.int .i64 0)
   | 2,.mp id=>match H[id]? with
     |some (.map es)=>some (.int .i64 es.length)
     |_=>none
   |_,_=>none
def fv_nilck (x:X) (tm:List AV) (H:Heap):Option AV:=
 match x.ev tm with
   | .ptr id off=>some (.ptr id off)
   | .eptr cs=>some (.eptr cs)
   | .fn f cs=>some (.fn f cs)
   | .bnd f cs=>some (.bnd f cs)
   | .iface t v=>some (.iface t v)
   |_=>none
def fv_alloc (_:List AV) (_:List AV) (_:Heap):Option AV:=none
def fv_box (_:X) (_:List AV) (_:Heap):Option AV:=none
def fv_store (_:Nat) (_:X) (_:X) (_:List AV) (_:Heap):Option AV:=none
def fv_mkmap (_:List AV) (_:Heap):Option AV:=none
def fv_mapup (_:Nat) (_:X) (_:X) (_:X) (_:List AV) (_:Heap):Option AV:=none
def fv_append (_:Nat) (_:Nat) (_:X) (_:X) (_:List AV) (_:Heap):Option AV:=none
def fv_appendm (_:Nat) (_:Nat) (_:X) (_:X) (_:List AV) (_:Heap):Option AV:=none
def fv_appendr (_:Nat) (_:Nat) (_:X) (_:X) (_:List AV) (_:Heap):Option AV:=none
def fv_callf (_:FuncId) (_:List X) (_:List AV) (_:Heap):Option AV:=none
def fv_callm (_:Bool) (_:FuncId) (_:List X) (_:List AV) (_:Heap):Option AV:=none
def fv_callv (_:X) (_:List X) (_:List AV) (_:Heap):Option AV:=none
def fv_recov (_:List AV) (_:Heap):Option AV:=none
def fv_panic (_:X) (_:List AV) (_:Heap):Option AV:=none
def fv_dfr (_:X) (_:List X) (_:List AV) (_:Heap):Option AV:=none
def fv_mkslicem (_:Nat) (_:Nat) (_:List AV) (_:X) (_:X) (_:List AV) (_:Heap):Option AV:=none
def fv_appz (_:Nat) (_:Nat) (_:List AV) (_:X) (_:X) (_:List AV) (_:Heap):Option AV:=none
def fv_clr (_:Nat) (_:List AV) (_:X) (_:List AV) (_:Heap):Option AV:=none
def fv_cpy (_:Nat) (_:X) (_:X) (_:List AV) (_:Heap):Option AV:=none
def fv_callw (_:FuncId) (_:List X) (_:List AV) (_:Heap):Option AV:=none
def fv_boxd (_:X) (_:List AV) (_:Heap):Option AV:=none
def fv_appf (_:Nat) (_:Nat) (_:X) (_:X) (_:List AV) (_:Heap):Option AV:=none
def fv_appg (_:Nat) (_:Nat) (_:List AV) (_:X) (_:X) (_:List AV) (_:Heap):Option AV:=none
def fv_bsmem (_:Nat) (_:Nat) (_:List AV) (_:List (Nat×Nat×X)) (_:List AV) (_:Heap):Option AV:=none
def avalF (o:AOp):List AV->Heap->Option AV:=
 AOp.casesOn (motive:=fun _=>List AV->Heap->Option AV) o fv_mv fv_pick fv_alloc fv_box fv_build fv_bslice fv_bsfull fv_mm fv_load fv_store fv_fld fv_part fv_ixa fv_ixarr fv_ixv fv_ixs fv_bin fv_un fv_conv fv_mkif fv_mkfn fv_mkmap fv_lookup fv_mapup fv_tassert fv_ext fv_slice fv_slstr fv_slc3 fv_len fv_append fv_appendm fv_appendr fv_callf fv_callm fv_callv fv_recov fv_panic fv_dfr fv_nilck fv_mkslice fv_mkslicem fv_mkbnd fv_idxb fv_appz fv_slarr fv_s2arr fv_chk fv_boxe fv_appc fv_cntb fv_clr fv_cpy fv_callw fv_boxd fv_appf fv_appg fv_bsmem
theorem avalF_eq (o:AOp) (tm:List AV) (H:Heap):avalF o tm H=aval o tm H:=by cases o<;>rfl
def fa_alloc (zs:List AV) (tm:List AV) (H:Heap):Option (Nx×Heap):=
 some (.val (.ptr H.length 0),H++[.cells zs])
def fa_box (x:X) (tm:List AV) (H:Heap):Option (Nx×Heap):=
 if allOne (x.ev tm).flat then some (.val (.ptr H.length 0),H++[.cells (x.ev tm).flat])else none
def fa_store (sz:Nat) (a:X) (x:X) (tm:List AV) (H:Heap):Option (Nx×Heap):=
 match a.ev tm with
   | .ptr id off=>match H[id]? with
     | some (.cells cs)=>
       if(x.ev tm).flat.length=sz/\off+sz<=cs.length/\allOne (x.ev tm).flat then
         some (.skip,H.set id (.cells (cs.take off++(x.ev tm).flat++cs.drop (off+sz))))
       else none
     |_=>none
   |_=>none
def fa_clr (sz:Nat) (zs:List AV) (x:X) (tm:List AV) (H:Heap):Option (Nx×Heap):=
 match x.ev tm with
   | .sl _ 0 _ _=>some (.val (.tup []),H)
   | .msl sz' id off n=>match H[id]? with
     | some (.cells cs)=>
       if sz'=sz/\zs.length=sz/\n≠0/\off+n*sz<=cs.length/\allOne zs=true then
         some (.val (.tup []),H.set id (.cells (cs.take off++repL n zs++cs.drop (off+n*sz))))
       else none
     |_=>none
   |_=>none
def fa_cpy (sz:Nat) (x:X) (y:X) (tm:List AV) (H:Heap):Option (Nx×Heap):=
 match x.ev tm,rowOf H (y.ev tm)with
   | .msl sz' id off n,.sl sz'' m ds _=>match H[id]? with
     | some (.cells cs)=>
       if m=0 then some (.val (.int .i64 0),H)
       else if sz'=sz/\sz''=sz/\min m n*sz<=ds.length/\off+min m n*sz<=cs.length/\allOne (ds.take (min m n*sz))=true then
         some (.val (.int .i64 (min m n:Nat)),H.set id (.cells (cs.take off++ds.take (min m n*sz)++cs.drop (off+min m n*sz))))
       else none
     |_=>none
   |_,_=>none
def fa_mkmap (tm:List AV) (H:Heap):Option (Nx×Heap):=
 some (.val (.mp H.length),H++[.map []])
def fa_mapup (kk:Nat) (x:X) (k:X) (v:X) (tm:List AV) (H:Heap):Option (Nx×Heap):=
 match x.ev tm with
   | .mp id=>match H[id]? with
     | some (.map es)=>match cellEq kk (k.ev tm) (k.ev tm),findA kk (k.ev tm) es 0 with
       |some _,some (some (i,_))=>some (.skip,H.set id (.map (es.set i (k.ev tm,v.ev tm))))
       |some _,some none=>some (.skip,H.set id (.map (es++[(k.ev tm,v.ev tm)])))
       |_,_=>none
     |_=>none
   |_=>none
def fa_append (sz:Nat) (bytes:Nat) (x:X) (y:X) (tm:List AV) (H:Heap):Option (Nx×Heap):=
 appV sz bytes (x.ev tm) (rowOf H (y.ev tm)) H
def fa_appendm (sz:Nat) (bytes:Nat) (x:X) (y:X) (tm:List AV) (H:Heap):Option (Nx×Heap):=
 match x.ev tm,y.ev tm with
   | .sl sz' n cs tk,.sl sz'' m ds _=>
     if 0<sz/\(n+m)*bytes<=70368744177664/\n+m<=70368744177664 then
       if m≠0/\sz''=sz/\m*sz<=ds.length/\allOne (ds.take (m*sz))/\n=0/\tk.empty then some (.val (.msl sz H.length 0 m),H++[.cells (ds.take (m*sz))])
       else if m=0/\tk.empty then some (.val (.sl sz' n cs tk),H)else none
     else none
   |_,_=>none
def fa_appendr (sz:Nat) (bytes:Nat) (x:X) (y:X) (tm:List AV) (H:Heap):Option (Nx×Heap):=
 appR sz bytes (x.ev tm) (y.ev tm) H
def fa_callf (f:FuncId) (args:List X) (tm:List AV) (H:Heap):Option (Nx×Heap):=
 some (.enter f (args.map (·.ev tm)),H)
def fa_callm (rw:Bool) (f:FuncId) (args:List X) (tm:List AV) (H:Heap):Option (Nx×Heap):=
 some (.enterm rw f (args.map (·.ev tm)),H)
def fa_callw (f:FuncId) (args:List X) (tm:List AV) (H:Heap):Option (Nx×Heap):=
 some (.enterm false f (args.map (·.ev tm)),H)
def fa_boxd (x:X) (tm:List AV) (H:Heap):Option (Nx×Heap):=
 if allOne (x.ev tm).flat then some (.val (.ptr H.length 0),H++[.cells (x.ev tm).flat])else none
def fa_callv (x:X) (args:List X) (tm:List AV) (H:Heap):Option (Nx×Heap):=
 match x.ev tm with
   | .fn f caps=>some (.enter f (args.map (·.ev tm)++caps),H)
   | .bnd f fs=>some (.enter f (fs++args.map (·.ev tm)),H)
   | .yld id=>some (.yield id (args.map (·.ev tm)),H)
   |_=>none
def fa_recov (tm:List AV) (H:Heap):Option (Nx×Heap):=
 some (.recov,H)
def fa_panic (x:X) (tm:List AV) (H:Heap):Option (Nx×Heap):=
 match x.ev tm with
   | .iface t v=>some (.pan (.iface t v),H)
   |_=>none
def fa_dfr (x:X) (args:List X) (tm:List AV) (H:Heap):Option (Nx×Heap):=
 match x.ev tm with
   | .fn f caps=>some (.dfr (.call f (args.map (·.ev tm)++caps)),H)
   |_=>none
def fa_mkslicem (sz:Nat) (bytes:Nat) (zs:List AV) (l:X) (c:X) (tm:List AV) (H:Heap):Option (Nx×Heap):=
 match madeN sz bytes zs (l.ev tm) (c.ev tm)with
   |some n=>some (.val (.msl sz H.length 0 n),H++[.cells (repL n zs)])
   |none=>none
def fa_bsmem (sz:Nat) (len:Nat) (zs:List AV) (ps:List (Nat×Nat×X)) (tm:List AV) (H:Heap):Option (Nx×Heap):=
 match fillL zs (evP tm ps)with
   |some cs=>if allOne cs&&cs.length==len*sz then some (.val (.rsl sz H.length len),H++[.cells cs])else none
   |none=>none
def fa_appz (sz:Nat) (bytes:Nat) (zs:List AV) (x:X) (n:X) (tm:List AV) (H:Heap):Option (Nx×Heap):=
 match x.ev tm,madeN sz bytes zs (n.ev tm) (n.ev tm)with
   | .sl sz' k cs (.own g),some m=>appV sz bytes (.sl sz' k cs (.own g)) (.sl sz m (repL m zs) .ro) H
   | .rsl sz' id k,some m=>appR sz bytes (.rsl sz' id k) (.sl sz m (repL m zs) .ro) H
   |_,_=>none
def fa_mv (_:X) (_:List AV) (_:Heap):Option (Nx×Heap):=none
def fa_pick (_:X) (_:X) (_:X) (_:List AV) (_:Heap):Option (Nx×Heap):=none
def fa_build (_:List AV) (_:List (Nat×Nat×X)) (_:List AV) (_:Heap):Option (Nx×Heap):=none
def fa_bslice (_:Nat) (_:Nat) (_:List AV) (_:List (Nat×Nat×X)) (_:List AV) (_:Heap):Option (Nx×Heap):=none
def fa_bsfull (_:Nat) (_:Nat) (_:List AV) (_:List (Nat×Nat×X)) (_:List AV) (_:Heap):Option (Nx×Heap):=none
def fa_mm (_:Bool) (_:X) (_:X) (_:List AV) (_:Heap):Option (Nx×Heap):=none
def fa_load (_:Nat) (_:Bool) (_:X) (_:List AV) (_:Heap):Option (Nx×Heap):=none
def fa_fld (_:Nat) (_:X) (_:List AV) (_:Heap):Option (Nx×Heap):=none
def fa_part (_:Nat) (_:Nat) (_:Bool) (_:X) (_:List AV) (_:Heap):Option (Nx×Heap):=none
def fa_ixa (_:Nat) (_:X) (_:X) (_:List AV) (_:Heap):Option (Nx×Heap):=none
def fa_ixarr (_:Nat) (_:Nat) (_:X) (_:X) (_:List AV) (_:Heap):Option (Nx×Heap):=none
def fa_ixv (_:Nat) (_:Nat) (_:Bool) (_:X) (_:X) (_:List AV) (_:Heap):Option (Nx×Heap):=none
def fa_ixs (_:X) (_:X) (_:List AV) (_:Heap):Option (Nx×Heap):=none
def fa_bin (_:BinOp) (_:EqK) (_:X) (_:X) (_:List AV) (_:Heap):Option (Nx×Heap):=none
def fa_un (_:UnOp) (_:X) (_:List AV) (_:Heap):Option (Nx×Heap):=none
def fa_conv (_:CvK) (_:X) (_:List AV) (_:Heap):Option (Nx×Heap):=none
def fa_mkif (_:TypeId) (_:X) (_:List AV) (_:Heap):Option (Nx×Heap):=none
def fa_mkfn (_:FuncId) (_:List X) (_:List AV) (_:Heap):Option (Nx×Heap):=none
def fa_lookup (_:Nat) (_:AV) (_:X) (_:X) (_:Bool) (_:List AV) (_:Heap):Option (Nx×Heap):=none
def fa_tassert (_:TypeId) (_:AV) (_:X) (_:Bool) (_:List AV) (_:Heap):Option (Nx×Heap):=none
def fa_ext (_:X) (_:Nat) (_:List AV) (_:Heap):Option (Nx×Heap):=none
def fa_slice (_:Nat) (_:X) (_:Option X) (_:Option X) (_:List AV) (_:Heap):Option (Nx×Heap):=none
def fa_slstr (_:X) (_:Option X) (_:Option X) (_:List AV) (_:Heap):Option (Nx×Heap):=none
def fa_slc3 (_:Nat) (_:X) (_:Option X) (_:Option X) (_:Option X) (_:List AV) (_:Heap):Option (Nx×Heap):=none
def fa_len (_:Nat) (_:X) (_:List AV) (_:Heap):Option (Nx×Heap):=none
def fa_nilck (_:X) (_:List AV) (_:Heap):Option (Nx×Heap):=none
def fa_mkslice (_:Nat) (_:Nat) (_:List AV) (_:X) (_:X) (_:List AV) (_:Heap):Option (Nx×Heap):=none
def fa_mkbnd (_:FuncId) (_:List X) (_:List AV) (_:Heap):Option (Nx×Heap):=none
def fa_idxb (_:X) (_:X) (_:List AV) (_:Heap):Option (Nx×Heap):=none
def fa_slarr (_:Nat) (_:Nat) (_:X) (_:Option X) (_:Option X) (_:List AV) (_:Heap):Option (Nx×Heap):=none
def fa_s2arr (_:Nat) (_:X) (_:List AV) (_:Heap):Option (Nx×Heap):=none
def fa_chk (_:List X) (_:List X) (_:List AV) (_:Heap):Option (Nx×Heap):=none
def fa_boxe (_:X) (_:List AV) (_:Heap):Option (Nx×Heap):=none
def fa_appc (_:Nat) (_:Nat) (_:X) (_:X) (_:List AV) (_:Heap):Option (Nx×Heap):=none
def fa_cntb (_:X) (_:X) (_:List AV) (_:Heap):Option (Nx×Heap):=none
def fa_appf (_:Nat) (_:Nat) (_:X) (_:X) (_:List AV) (_:Heap):Option (Nx×Heap):=none
def fa_appg (_:Nat) (_:Nat) (_:List AV) (_:X) (_:X) (_:List AV) (_:Heap):Option (Nx×Heap):=none
def aactF (o:AOp):List AV->Heap->Option (Nx×Heap):=
 AOp.casesOn (motive:=fun _=>List AV->Heap->Option (Nx×Heap)) o fa_mv fa_pick fa_alloc fa_box fa_build fa_bslice fa_bsfull fa_mm fa_load fa_store fa_fld fa_part fa_ixa fa_ixarr fa_ixv fa_ixs fa_bin fa_un fa_conv fa_mkif fa_mkfn fa_mkmap fa_lookup fa_mapup fa_tassert fa_ext fa_slice fa_slstr fa_slc3 fa_len fa_append fa_appendm fa_appendr fa_callf fa_callm fa_callv fa_recov fa_panic fa_dfr fa_nilck fa_mkslice fa_mkslicem fa_mkbnd fa_idxb fa_appz fa_slarr fa_s2arr fa_chk fa_boxe fa_appc fa_cntb fa_clr fa_cpy fa_callw fa_boxd fa_appf fa_appg fa_bsmem
theorem aactF_eq (o:AOp) (tm:List AV) (H:Heap):aactF o tm H=aact o tm H:=by cases o<;>rfl
abbrev RX:=Option (Ex×Fr×Heap)
def outF (fr:Fr) (k:AV->Heap->RX) (o:Option (Out×Heap)):RX:=
 match o with
 |some (.ret v,H)=>k v H
 |some (.pan c,H)=>some (.panic c,fr,H)
 |none=>none
def dfrF (rd:Option Nat) (k:RX):RX:=
 match rd with
 |some _=>none
 |none=>k
def actF (cb:CB) (rd:Option Nat) (fr:Fr) (dst:Option Nat) (ih:Fr->Heap->RX) (r:Option (Nx×Heap)):RX:=
 match r with
 |some (.val v,H)=>ih ⟨putD fr.tm dst v,fr.df⟩ H
 |some (.skip,H)=>ih ⟨putD fr.tm dst (.tup []),fr.df⟩ H
 |some (.enter f args,H)=>outF fr (fun v H=>ih ⟨putD fr.tm dst v,fr.df⟩ H) (enterA cb f args H)
 |some (.enterm rw f args,H)=>outF fr (fun v H=>ih ⟨putD fr.tm dst v,fr.df⟩ H) (enterM cb rw f args H)
 |some (.yield id args,H)=>outF fr (fun v H=>ih ⟨putD fr.tm dst v,fr.df⟩ H) (cb.yl id args H)
 |some (.pan v,H)=>some (.panic [(v,false)],fr,H)
 |some (.dfr d,H)=>dfrF rd (ih ⟨putD fr.tm dst (.tup []),d::fr.df⟩ H)
 |_=>none
def stepV (cb:CB) (rd:Option Nat) (o:AOper) (ih:Fr->Heap->RX) (fr:Fr) (H:Heap) (v:Option AV):RX:=
 Option.casesOn (motive:=fun _=>RX) v (actF cb rd fr o.dst ih (aactF o.op fr.tm H)) (fun v=>ih ⟨putD fr.tm o.dst v,fr.df⟩ H)
def stepO (cb:CB) (rd:Option Nat) (o:AOper) (ih:Fr->Heap->RX) (fr:Fr) (H:Heap):RX:=
 Bool.casesOn (motive:=fun _=>RX) (wantedA fr.tm o.guard) (ih ⟨putD fr.tm o.dst (.tup []),fr.df⟩ H) (stepV cb rd o ih fr H (avalF o.op fr.tm H))
def endF (fr:Fr) (H:Heap):RX:=some (.normal,fr,H)
def aregF (cb:CB) (rd:Option Nat) (ops:List AOper):Fr->Heap->RX:=
 List.rec (motive:=fun _=>Fr->Heap->RX) endF (fun o _ ih=>stepO cb rd o ih) ops
theorem aregF_eq (cb:CB) (rd:Option Nat):∀(ops:List AOper) (fr:Fr) (H:Heap),aregF cb rd ops fr H=aregion cb rd ops fr H
 |[],_,_=>rfl
 | o::r,fr,H=>by
   show stepO cb rd o (aregF cb rd r) fr H=_
   rw[aregion]
   unfold stepO stepV
   rw[avalF_eq,aactF_eq]
   cases wantedA fr.tm o.guard with
   |false=>simp only[Bool.false_eq_true,if_false];exact aregF_eq cb rd r _ _
   | true=>
     simp only[if_true]
     cases aval o.op fr.tm H with
     |some v=>exact aregF_eq cb rd r _ _
     | none=>
       dsimp only
       unfold actF
       cases aact o.op fr.tm H with
       |none=>rfl
       | some p=>
         obtain⟨nx,H1⟩:=p
         have hout:∀q:Option (Out×Heap),outF fr (fun v H=>aregF cb rd r ⟨putD fr.tm o.dst v,fr.df⟩ H) q=(match q with
             |some (.ret v,H'')=>aregion cb rd r {fr with tm:=putD fr.tm o.dst v} H''
             |some (.pan c,H'')=>some (.panic c,fr,H'')
             |none=>none):=by
           intro q
           cases q with
           |none=>rfl
           | some q=>
             obtain⟨o',H2⟩:=q
             cases o' with
             |ret v=>exact aregF_eq cb rd r _ _
             |pan c=>rfl
         cases nx with
         |val v=>exact aregF_eq cb rd r _ _
         |skip=>exact aregF_eq cb rd r _ _
         |enter f args=>exact hout _
         |enterm rw f args=>exact hout _
         |yield id args=>exact hout _
         |pan v=>rfl
         |recov=>rfl
         | dfr d=>
           cases rd with
           |none=>exact aregF_eq cb none r _ _
           |some _=>rfl
def prF (g:Nat) (r:Option PR):Option (AV×Option AObj):=
 match r with
 |some (.plain v)=>some (v,none)
 |some (.fresh sz n cs)=>some (.sl sz n cs (.own g),some (.tok sz))
 |some (.fmap es)=>some (.mp g,some (.map es))
 |_=>none
def ap1N (cb:CB) (H G:Heap) (op:AOp) (tm:List AV) (g:Nat):Option (AV×Option AObj):=
 match op with
 | .alloc zs=>some (.ptr g 0,some (.cells zs))
 | .lookup kk zero (.t i) k ok=>(aval (.lookup kk zero (.t i) k ok) tm G).map fun v=>(v,none)
 | .callf f args=>prF g (pcx cb f (args.map (·.ev tm)) H)
 | .callv x args=>
   match calleeA (x.ev tm) (args.map (·.ev tm))with
   |some (f,as)=>prF g (pcx cb f as H)
   |none=>none
 | .callw f args=>
   match pcx cb f (args.map (·.ev tm)) H with
   |some (.fresh sz n cs)=>if cs.all (·.scal)&&cs.length==n*sz then some (.msl sz g 0 n,some (.cells cs))else none
   |_=>none
 | .boxd x=>if allOne (x.ev tm).flat then some (.ptr g 0,some (.cells (x.ev tm).flat))else none
 |op=>apX H.length op tm G g
def okF (v:AV):Option (AV×Option AObj):=some (v,none)
def ap1F (cb:CB) (H G:Heap) (o:AOper) (tm:List AV) (g:Nat):Option (AV×Option AObj):=
 Bool.casesOn (motive:=fun _=>Option (AV×Option AObj)) (wantedA tm o.guard) (okF (.tup [])) (Option.casesOn (motive:=fun _=>Option (AV×Option AObj)) (avalF o.op tm H) (ap1N cb H G o.op tm g) okF)
theorem ap1F_eq (cb:CB) (H G:Heap) (o:AOper) (tm:List AV) (g:Nat):ap1F cb H G o tm g=ap1 cb H G o tm g:=by
 unfold ap1F ap1
 rw[avalF_eq]
 cases wantedA tm o.guard with
 |false=>rfl
 | true=>
   simp only[if_true]
   cases aval o.op tm H with
   |some v=>rfl
   | none=>
     dsimp only
     cases o.op<;>first|rfl|skip
abbrev PX:=Option (List AV×List AObj)
def preE (tm:List AV) (e:List AObj):PX:=some (tm,e)
def preN (cb:CB) (H:Heap) (o:AOper) (ih:List AV->List AObj->PX) (tm:List AV) (e:List AObj):PX:=
 match ap1F cb H (H++e) o tm (H.length+e.length)with
 |some (v,k)=>ih (putD tm o.dst v) (killE H.length (killOf o tm) (e++k.toList))
 |none=>none
def apreF (cb:CB) (H:Heap) (ops:List AOper):List AV->List AObj->PX:=
 List.rec (motive:=fun _=>List AV->List AObj->PX) preE (fun o _ ih=>preN cb H o ih) ops
theorem apreF_eq (cb:CB) (H:Heap):∀(ops:List AOper) (tm:List AV) (e:List AObj),apreF cb H ops tm e=apre cb H ops tm e
 |[],_,_=>rfl
 | o::r,tm,e=>by
   show preN cb H o (apreF cb H r) tm e=_
   rw[apre]
   unfold preN
   rw[ap1F_eq]
   cases ap1 cb H (H++e) o tm (H.length+e.length)with
   |none=>rfl
   |some p=>exact apreF_eq cb H r _ _
def seqF (iha ihb:Fr->Heap->RX) (fr:Fr) (H:Heap):RX:=
 match iha fr H with
 |some (.normal,fr',H')=>ihb fr' H'
 |r=>r
def condF (x:X) (iha ihb:Fr->Heap->RX) (fr:Fr) (H:Heap):RX:=
 match x.ev fr.tm with
 | .bool b=>Bool.casesOn (motive:=fun _=>RX) b (ihb fr H) (iha fr H)
 |_=>none
def blockF (id:Nat) (iha:Fr->Heap->RX) (fr:Fr) (H:Heap):RX:=
 match iha fr H with
 |some (.exit id',fr',H')=>if id'=id then some (.normal,fr',H')else some (.exit id',fr',H')
 |r=>r
def loopF (cb:CB) (rd:Option Nat) (a:ACode) (iha:Fr->Heap->RX) (fr:Fr) (H:Heap):RX:=
 match iha fr H with
 |some (.normal,fr',H')=>cb.run rd (.loop a) fr' H'
 |r=>r
def drawnF (cb:CB) (rd:Option Nat) (pre tail:List AOper) (fr:Fr) (H:Heap):RX:=
 match apreF cb H pre fr.tm [] with
 |some (tm,e)=>aregF cb rd tail {fr with tm:=tm} (H++e)
 |none=>none
def scopeF (cb:CB) (rd:Option Nat) (w:ACode) (iha:Fr->Heap->RX) (fr:Fr) (H:Heap):RX:=
 match iha fr H with
 | some (.goto l,fr',H')=>
   match findL w l with
   |some rest=>cb.run rd (.inscope w rest) fr' H'
   |none=>some (.goto l,fr',H')
 |r=>r
def skipF (fr:Fr) (H:Heap):RX:=some (.normal,fr,H)
def exitF (id:Nat) (fr:Fr) (H:Heap):RX:=some (.exit id,fr,H)
def gotoF (l:Nat) (fr:Fr) (H:Heap):RX:=some (.goto l,fr,H)
def retF (fr:Fr) (H:Heap):RX:=some (.ret,fr,H)
def rangeF (cb:CB) (rd:Option Nat) (x:X) (ps:List Nat) (as bd:ACode) (fr:Fr) (H:Heap):RX:=acode cb rd (.range x ps as bd) fr H
def acodeF (cb:CB) (rd:Option Nat) (c:ACode):Fr->Heap->RX:=
 ACode.rec (motive:=fun _=>Fr->Heap->RX) skipF (fun ops=>aregF cb rd ops) (fun p t=>drawnF cb rd p t) (fun _ _ iha ihb=>seqF iha ihb) (fun x _ _ iha ihb=>condF x iha ihb) (fun id _ iha=>blockF id iha)
   (fun a iha=>loopF cb rd a iha) (fun x ps as bd _ _=>rangeF cb rd x ps as bd) exitF (fun a iha=>scopeF cb rd a iha) (fun w _ _ iha=>scopeF cb rd w iha) (fun _=>skipF) gotoF retF c
theorem acodeF_eq (cb:CB) (rd:Option Nat) (c:ACode):∀(fr:Fr) (H:Heap),acodeF cb rd c fr H=acode cb rd c fr H:=by
 induction c with
 |region ops=>intro fr H;exact aregF_eq cb rd ops fr H
 | drawn p t=>
   intro fr H
   show drawnF cb rd p t fr H=_
   rw[acode,drawnF,apreF_eq]
   cases apre cb H p fr.tm [] with
   |none=>rfl
   |some q=>exact aregF_eq _ _ _ _ _
 | seq a b iha ihb=>
   intro fr H
   show seqF (acodeF cb rd a) (acodeF cb rd b) fr H=_
   rw[acode,seqF,iha]
   cases acode cb rd a fr H with
   |none=>rfl
   |some q=>obtain⟨e,fr',H'⟩:=q;cases e<;>first|rfl|exact ihb _ _
 | cond x a b iha ihb=>
   intro fr H
   show condF x (acodeF cb rd a) (acodeF cb rd b) fr H=_
   rw[acode,condF]
   cases x.ev fr.tm with
   | bool b'=>
     cases b' with
     |true=>exact iha _ _
     |false=>exact ihb _ _
   |_=>rfl
 | block id a iha=>
   intro fr H
   show blockF id (acodeF cb rd a) fr H=_
   rw[acode,blockF,iha]
   cases acode cb rd a fr H with
   |none=>rfl
   |some q=>obtain⟨e,fr',H'⟩:=q;cases e<;>rfl
 | loop a iha=>
   intro fr H
   show loopF cb rd a (acodeF cb rd a) fr H=_
   rw[acode,loopF,iha]
   cases acode cb rd a fr H with
   |none=>rfl
   |some q=>obtain⟨e,fr',H'⟩:=q;cases e<;>rfl
 | scope a iha=>
   intro fr H
   show scopeF cb rd a (acodeF cb rd a) fr H=_
   rw[acode,scopeF,iha]
   cases acode cb rd a fr H with
   |none=>rfl
   |some q=>obtain⟨e,fr',H'⟩:=q;cases e<;>rfl
 | inscope w a _ iha=>
   intro fr H
   show scopeF cb rd w (acodeF cb rd a) fr H=_
   rw[acode,scopeF,iha]
   cases acode cb rd a fr H with
   |none=>rfl
   |some q=>obtain⟨e,fr',H'⟩:=q;cases e<;>rfl
 |_=>intro fr H;rfl
def bodyF (tab:FuncId->Option AFun) (cb:CB) (fi:AFun) (args:List AV) (H:Heap):Option (Out×Heap):=
 match acodeF cb none fi.body (fr0 fi.np args) H with
 | some (e,fr,H1)=>
   match (match e with| .normal| .ret=>some Mode.returning| .panic c=>some (Mode.panicking c)|_=>none)with
   | some u=>
     match leaveA tab cb fr.df u H1 with
     |some (.returning,H2)=>(resA fr.tm H2 fi.res).map fun vs=>(.ret (tupled vs),H2)
     |some (.panicking c,H2)=>some (.pan c,H2)
     |none=>none
   |none=>none
 |none=>none
theorem bodyF_eq (tab:FuncId->Option AFun) (cb:CB) (fi:AFun) (args:List AV) (H:Heap):bodyF tab cb fi args H=bodyA tab cb fi args H:=by
 unfold bodyF bodyA
 rw[acodeF_eq]
 cases acode cb none fi.body (fr0 fi.np args) H with
 |none=>rfl
 | some q=>
   obtain⟨e,fr,H1⟩:=q
   cases e with
   | normal=>
     dsimp only
     cases leaveA tab cb fr.df .returning H1 with
     |none=>rfl
     |some p=>obtain⟨m,H2⟩:=p;cases m<;>rfl
   | ret=>
     dsimp only
     cases leaveA tab cb fr.df .returning H1 with
     |none=>rfl
     |some p=>obtain⟨m,H2⟩:=p;cases m<;>rfl
   | panic c=>
     dsimp only
     cases leaveA tab cb fr.df (.panicking c) H1 with
     |none=>rfl
     |some p=>obtain⟨m,H2⟩:=p;cases m<;>rfl
   |exit _=>rfl
   |goto _=>rfl
def pcF (tab:FuncId->Option AFun) (cb:CB) (f:FuncId) (args:List AV):Option PR:=
 match tab f with
 | some fi=>match fi.con with
   |some g=>g args
   |none=>if pcOn fi args then outM fi.mode (bodyF tab cb fi (args.map lend) [])else none
 |none=>none
def icF (tab:FuncId->Option AFun) (cb:CB) (f:FuncId) (args:List AV) (H:Heap):Option (Out×Heap):=
 match tab f with
 | some fi=>if fi.con.isSome||pcOn fi args then none else match fi.icon with
   |some g=>g args H
   |none=>bodyF tab cb fi args H
 |none=>none
theorem pcF_eq (tab:FuncId->Option AFun) (cb:CB) (f:FuncId) (args:List AV):pcF tab cb f args=pcA tab cb f args:=by
 unfold pcF pcA
 simp only[bodyF_eq]
 cases tab f<;>rfl
theorem icF_eq (tab:FuncId->Option AFun) (cb:CB) (f:FuncId) (args:List AV) (H:Heap):icF tab cb f args H=icA tab cb f args H:=by
 unfold icF icA
 simp only[bodyF_eq]
 cases tab f<;>rfl
def stepF (tab:FuncId->Option AFun) (cb:CB):CB:=⟨pcF tab cb,icF tab cb,ylA cb,acodeF cb,lentA tab⟩
def cbsF (tab:FuncId->Option AFun):Nat->CB:=
 Nat.rec ⟨fun _ _=>none,fun _ _ _=>none,fun _ _ _=>none,fun _ _ _ _=>none,lentA tab⟩ (fun _ ih=>stepF tab ih)
def stepK (tab:FuncId->Option AFun) (known:FuncId->List AV->Option PR) (cb:CB):CB:=
 ⟨fun f args=>Option.casesOn (motive:=fun _=>Option PR) (known f args) (pcF tab cb f args) some,icF tab cb,ylA cb,acodeF cb,lentA tab⟩
def cbsK (tab:FuncId->Option AFun) (known:FuncId->List AV->Option PR):Nat->CB:=
 Nat.rec ⟨fun _ _=>none,fun _ _ _=>none,fun _ _ _=>none,fun _ _ _ _=>none,lentA tab⟩ (fun _ ih=>stepK tab known ih)
theorem cbsK_le {tab:FuncId->Option AFun} {known:FuncId->List AV->Option PR} (hk:∀f args r,known f args=some r->(cbL tab).pc f args=some r):∀n,CB.Le (cbsK tab known n) (cbL tab)
 |0=>⟨fun _ _ _ h=>(by cases h),fun _ _ _ _ h=>(by cases h),fun _ _ _ _ h=>(by cases h),fun _ _ _ _ _ h=>(by cases h),fun f=>cbs_lent 0 f,fun _ _ _ _ h=>(by cases h)⟩
 | n+1=>by
   have ih:=cbsK_le hk n
   have hi:∀f args H r,(cbsK tab known (n+1)).ic f args H=some r->(cbL tab).ic f args H=some r:=by
     intro f args H r h
     have h:icF tab (cbsK tab known n) f args H=some r:=h
     rw[icF_eq]at h
     exact ic_of (icA_mono ih (fun _ _ h=>h) h)
   refine⟨?_,hi, ?_, ?_,fun f=>cbs_lent (n+1) f, ?_⟩
   . intro f args r h
     have h:Option.casesOn (motive:=fun _=>Option PR) (known f args) (pcF tab (cbsK tab known n) f args) some=some r:=h
     cases hk2:known f args with
     | some q=>
       rw[hk2]at h
       cases h
       exact hk f args _ hk2
     | none=>
       rw[hk2]at h
       have h:pcF tab (cbsK tab known n) f args=some r:=h
       rw[pcF_eq]at h
       exact pc_of (pcA_mono ih (fun _ _ h=>h) h)
   . intro id args H r h
     have h:ylA (cbsK tab known n) id args H=some r:=h
     exact yl_of (ylA_mono ih h)
   . intro rd c fr H r h
     have h:acodeF (cbsK tab known n) rd c fr H=some r:=h
     rw[acodeF_eq]at h
     exact run_of (acode_mono ih _ _ _ _ h)
   . intro f args H r h
     obtain⟨m,hm⟩:=cbL_ic.1 (hi f args H r h)
     exact(cbs_le_cbL m).sep _ _ _ _ hm
theorem pc_run {tab:FuncId->Option AFun} {known:FuncId->List AV->Option PR} (hk:∀f args r,known f args=some r->(cbL tab).pc f args=some r) (n:Nat) {f:FuncId} {args:List AV} {r:PR} (h:(cbsK tab known n).pc f args=some r):(cbL tab).pc f args=some r:=
 (cbsK_le hk n).pc f args r h
end
end Go.Am
