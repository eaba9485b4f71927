/- THE RULES OF A WALK: what is to be shown of code, over an environment of temporaries as a function; sound for the interpreter. No condition. -/
import Derived.Test.YtephfpdnhdpmkaaGreatDoorAmLim
open Int (reduceEq)
open Nat (reduceEqDiff reduceAdd reduceMul reduceLT reduceLeDiff)
set_option linter.all false
namespace Go.Am
open Go
abbrev Env:=Nat->AV
def upd (E:Env) (j:Nat) (v:AV):Env:=fun i=>if i=j then v else E i
def updD (E:Env) (d:Option Nat) (v:AV):Env:=
 match d with
 |some d=>upd E d v
 |none=>E
theorem upd_app (E:Env) (j:Nat) (v:AV) (i:Nat):upd E j v i=if i=j then v else E i:=(rfl)
theorem updD_some (E:Env) (j:Nat) (v:AV):updD E (some j) v=upd E j v:=(rfl)
theorem updD_none (E:Env) (v:AV):updD E none v=E:=(rfl)
def X.evE (E:Env):X->AV
 | .t i=>E i
 | .c v=>v
theorem evE_t (E:Env) (i:Nat):X.evE E (.t i)=E i:=(rfl)
theorem evE_c (E:Env) (v:AV):X.evE E (.c v)=v:=(rfl)
def evPE (E:Env):List (Nat×Nat×X)->List (Nat×Nat×AV)
 |[]=>[]
 |(o,s,x)::r=>(o,s,x.evE E)::evPE E r
def boundE (E:Env) (x:Option X) (d:Nat):Option Nat:=
 match x with
 |none=>some d
 |some x=>asNat (x.evE E)
def avalE (o:AOp) (E:Env) (H:Heap):Option AV:=
 match o with
 | .mv x=>some (x.evE E)
 | .pick c a b=>match c.evE E with
   | .bool t=>some (if t then a.evE E else b.evE E)
   |_=>none
 | .build zs ps=>(fillL zs (evPE E ps)).map .agg
 | .bslice sz len zs ps=>match fillL zs (evPE E ps)with
   |some cs=>if allOne cs&&cs.length==len*sz then some (.sl sz len cs (if len=0 then .e else .ro))else none
   |none=>none
 | .bsfull sz len zs ps=>match fillL zs (evPE E ps)with
   |some cs=>if allOne cs&&cs.length==len*sz then some (.sl sz len cs .e)else none
   |none=>none
 | .mm mx x y=>match x.evE E,y.evE E with
   | .int k a,.int _ b=>some (.int k (if mx then(if a<b then b else a)else(if b<a then b else a)))
   |_,_=>none
 | .load sz ag x=>match x.evE E with
   | .ptr id off=>match H[id]? with
     |some (.cells cs)=>readC cs off sz ag
     |_=>none
   | .eptr cs=>readC cs 0 sz ag
   |_=>none
 | .fld off x=>match x.evE E with
   | .ptr id o=>some (.ptr id (o+off))
   | .eptr cs=>some (.eptr (cs.drop off))
   |_=>none
 | .part off sz ag x=>match x.evE E with
   | .agg cs=>readC cs off sz ag
   |_=>none
 | .ixa sz x i=>match x.evE E,i.evE E with
   | .sl sz' n cs _,.int _ j=>if sz=sz'/\0<=j/\j<n then some (.eptr (cs.drop (j.toNat*sz)))else none
   | .msl sz' id off n,.int _ j=>if sz=sz'/\0<=j/\j<n then some (.ptr id (off+j.toNat*sz))else none
   | .rsl sz' id n,.int _ j=>if sz=sz'/\0<=j/\j<n then some (.ptr id (j.toNat*sz))else none
   |_,_=>none
 | .ixarr n sz x i=>match x.evE E,i.evE E with
   | .ptr id off,.int _ j=>if 0<=j/\j<n then some (.ptr id (off+j.toNat*sz))else none
   | .eptr cs,.int _ j=>if 0<=j/\j<n then some (.eptr (cs.drop (j.toNat*sz)))else none
   |_,_=>none
 | .ixv n sz ag x i=>match x.evE E,i.evE E with
   | .agg cs,.int _ j=>if 0<=j/\j<n then readC cs (j.toNat*sz) sz ag else none
   |_,_=>none
 | .ixs x i=>match x.evE E,i.evE E with
   | .str s,.int _ j=>if 0<=j then(s[j.toNat]?).map fun b=> .int .u8 b.toNat else none
   |_,_=>none
 | .bin op ek x y=>binV op ek x y (x.evE E) (y.evE E)
 | .un op x=>unV op (x.evE E)
 | .conv k x=>match k,x.evE E with
   | .int k,.int _ n=>some (.int k (k.wrap n))
   | .same,.str s=>some (.str s)
   | .s2b,.str s=>if s.size<=70368744177664 then some (.sl 1 s.size (bytesA s) .ro)else none
   | .b2s,.sl sz n cs _=>if sz=1∨n=0 then(unbytes (cs.take n)).map fun l=> .str ⟨l.toArray⟩else none
   |_,_=>none
 | .mkif t x=>some (.iface t (x.evE E))
 | .chk lx sx=>if floatV (lx.map (·.evE E)) (sx.map (·.evE E))then some (.tup [])else none
 | .boxe x=>if allOne (x.evE E).flat then some (.eptr (x.evE E).flat)else none
 | .appc sz bytes x y=>match x.evE E,y.evE E with
   | .sl sz' 0 [] .e,.sl sz'' m ds _=>
     if 0<sz/\m*bytes<=70368744177664/\m<=70368744177664/\m≠0/\sz''=sz/\m*sz<=ds.length/\allOne (ds.take (m*sz))=true then some (.sl sz m (ds.take (m*sz)) .ro)
     else if m=0 then some (.sl sz' 0 [] .e)else none
   |_,_=>none
 | .mkfn f caps=>some (.fn f (caps.map (·.evE E)))
 | .mkbnd f fs=>some (.bnd f (fs.map (·.evE E)))
 | .idxb x c=>match x.evE E,c.evE E with
   | .str s,.int .u8 k=>some (idxV (idxB (UInt8.ofNat k.toNat) s.data.toList))
   |_,_=>none
 | .cntb x c=>match x.evE E,c.evE E with
   | .str s,.int .u8 k=>some (.int .i64 (s.data.toList.count (UInt8.ofNat k.toNat):Nat))
   |_,_=>none
 | .mkslice sz bytes zs l c=>match madeN sz bytes zs (l.evE E) (c.evE E)with
   |some n=>some (.sl sz n (repL n zs) .e)
   |none=>none
 | .lookup kk zero x i ok=>match x.evE E with
   | .nilm=>match cellEq kk (i.evE E) (i.evE E)with
     |some _=>some (if ok then .tup [zero,.bool false] else zero)
     |none=>none
   | .mp id=>match H[id]? with
     | some (.map es)=>match cellEq kk (i.evE E) (i.evE E),findA kk (i.evE E) es 0 with
       |some _,some (some (_,v))=>some (if ok then .tup [v,.bool true] else v)
       |some _,some none=>some (if ok then .tup [zero,.bool false] else zero)
       |_,_=>none
     |_=>none
   |_=>none
 | .tassert t zero x ok=>match x.evE E with
   | .iface t' v=>if t'=t then some (if ok then .tup [v,.bool true] else v)else if ok then some (.tup [zero,.bool false])else none
   | .nili=>if ok then some (.tup [zero,.bool false])else none
   |_=>none
 | .ext x i=>match x.evE E with
   | .tup vs=>vs[i]?
   |_=>none
 | .slice sz x lo hi=>match x.evE E with
   | .sl sz' n cs tk=>match boundE E lo 0,boundE E hi n with
     | some l,some h=>
       if sz=sz'/\0<sz/\l<=h/\h*sz<=cs.length then
         some (if l=0/\h=n then .sl sz n cs tk else .sl sz (h-l) (cs.drop (l*sz)) .ro)
       else if tk.isZ=true/\l=0/\h=0 then some (.sl sz' n cs tk)else none
     |_,_=>none
   | .msl sz' id off n=>match boundE E lo 0,boundE E hi n with
     |some l,some h=>if sz=sz'/\0<sz/\l<=h/\h<=n then some (if l=h then .sl sz 0 [] .ro else .msl sz id (off+l*sz) (h-l))else none
     |_,_=>none
   |_=>none
 | .slc3 sz x lo hi mx=>match x.evE E with
   | .sl sz' n cs tk=>match boundE E lo 0,boundE E hi n,boundE E mx n with
     | some l,some h,some m=>
       if sz=sz'/\0<sz/\l<=h/\h=m/\h*sz<=cs.length/\tk.isZ=false then
         some (.sl sz (h-l) ((cs.take (h*sz)).drop (l*sz)) .ro)
       else none
     |_,_,_=>none
   | .msl sz' id off n=>match boundE E lo 0,boundE E hi n,boundE E mx n with
     |some l,some h,some m=>if sz=sz'/\0<sz/\l<=h/\h=m/\h<=n then some (if l=h then .sl sz 0 [] .ro else .msl sz id (off+l*sz) (h-l))else none
     |_,_,_=>none
   |_=>none
 | .slstr x lo hi=>match x.evE E with
   | .str s=>match boundE E lo 0,boundE E hi s.size with
     |some l,some h=>if l<=h/\h<=s.size then some (.str (s.extract l h))else none
     |_,_=>none
   |_=>none
 | .slarr n sz x lo hi=>match x.evE E with
   | .ptr id off=>match boundE E lo 0,boundE E hi n with
     |some l,some h=>if l<=h/\h<=n then some (if l=h then .sl sz 0 [] .ro else .msl sz id (off+l*sz) (h-l))else none
     |_,_=>none
   | .eptr cs=>match boundE E lo 0,boundE E hi n with
     |some l,some h=>if l<=h/\h<=n/\n*sz<=cs.length then some (if l=h then .sl sz 0 [] .ro else .sl sz (h-l) ((cs.take (n*sz)).drop (l*sz)) .ro)else none
     |_,_=>none
   |_=>none
 | .s2arr n x=>match x.evE E with
   | .sl _ m cs _=>if 0<n/\n<=m then some (.eptr cs)else none
   | .msl _ id off m=>if n<=m then some (.ptr id off)else none
   |_=>none
 | .len k x=>match k,x.evE E with
   |0,.sl _ n _ _=>some (.int .i64 n)
   |0,.msl _ _ _ n=>some (.int .i64 n)
   |0,.rsl _ _ n=>some (.int .i64 n)
   |1,.str s=>some (.int .i64 s.size)
   |2,.nilm=>some (.int .i64 0)
   | 2,.mp id=>match H[id]? with
     |some (.map es)=>some (.int .i64 es.length)
     |_=>none
   |_,_=>none
 | .nilck x=>match x.evE E with
   | .ptr id off=>some (.ptr id off)
   | .eptr cs=>some (.eptr cs)
   | .fn f cs=>some (.fn f cs)
   | .bnd f cs=>some (.bnd f cs)
   | .iface t v=>some (.iface t v)
   |_=>none
 |_=>none
def aactE (o:AOp) (E:Env) (H:Heap):Option (Nx×Heap):=
 match o with
 | .alloc zs=>some (.val (.ptr H.length 0),H++[.cells zs])
 | .box x=>if allOne (x.evE E).flat then some (.val (.ptr H.length 0),H++[.cells (x.evE E).flat])else none
 | .store sz a x=>match a.evE E with
   | .ptr id off=>match H[id]? with
     | some (.cells cs)=>
       if(x.evE E).flat.length=sz/\off+sz<=cs.length/\allOne (x.evE E).flat then
         some (.skip,H.set id (.cells (cs.take off++(x.evE E).flat++cs.drop (off+sz))))
       else none
     |_=>none
   |_=>none
 | .clr sz zs x=>match x.evE E with
   | .sl _ 0 _ _=>some (.val (.tup []),H)
   | .msl sz' id off n=>match H[id]? with
     | some (.cells cs)=>
       if sz'=sz/\zs.length=sz/\n≠0/\off+n*sz<=cs.length/\allOne zs=true then
         some (.val (.tup []),H.set id (.cells (cs.take off++repL n zs++cs.drop (off+n*sz))))
       else none
     |_=>none
   |_=>none
 | .cpy sz x y=>match x.evE E,rowOf H (y.evE E)with
   | .msl sz' id off n,.sl sz'' m ds _=>match H[id]? with
     | some (.cells cs)=>
       if m=0 then some (.val (.int .i64 0),H)
       else if sz'=sz/\sz''=sz/\min m n*sz<=ds.length/\off+min m n*sz<=cs.length/\allOne (ds.take (min m n*sz))=true then
         some (.val (.int .i64 (min m n:Nat)),H.set id (.cells (cs.take off++ds.take (min m n*sz)++cs.drop (off+min m n*sz))))
       else none
     |_=>none
   |_,_=>none
 | .mkmap=>some (.val (.mp H.length),H++[.map []])
 | .mapup kk x k v=>match x.evE E with
   | .mp id=>match H[id]? with
     | some (.map es)=>match cellEq kk (k.evE E) (k.evE E),findA kk (k.evE E) es 0 with
       |some _,some (some (i,_))=>some (.skip,H.set id (.map (es.set i (k.evE E,v.evE E))))
       |some _,some none=>some (.skip,H.set id (.map (es++[(k.evE E,v.evE E)])))
       |_,_=>none
     |_=>none
   |_=>none
 | .append sz bytes x y=>appV sz bytes (x.evE E) (rowOf H (y.evE E)) H
 | .appendm sz bytes x y=>match x.evE E,y.evE E with
   | .sl sz' n cs tk,.sl sz'' m ds _=>
     if 0<sz/\(n+m)*bytes<=70368744177664/\n+m<=70368744177664 then
       if m≠0/\sz''=sz/\m*sz<=ds.length/\allOne (ds.take (m*sz))/\n=0/\tk.empty then some (.val (.msl sz H.length 0 m),H++[.cells (ds.take (m*sz))])
       else if m=0/\tk.empty then some (.val (.sl sz' n cs tk),H)else none
     else none
   |_,_=>none
 | .appendr sz bytes x y=>appR sz bytes (x.evE E) (y.evE E) H
 | .callf f args=>some (.enter f (args.map (·.evE E)),H)
 | .callm rw f args=>some (.enterm rw f (args.map (·.evE E)),H)
 | .callw f args=>some (.enterm false f (args.map (·.evE E)),H)
 | .boxd x=>if allOne (x.evE E).flat then some (.val (.ptr H.length 0),H++[.cells (x.evE E).flat])else none
 | .callv x args=>match x.evE E with
   | .fn f caps=>some (.enter f (args.map (·.evE E)++caps),H)
   | .bnd f fs=>some (.enter f (fs++args.map (·.evE E)),H)
   | .yld id=>some (.yield id (args.map (·.evE E)),H)
   |_=>none
 | .recov=>some (.recov,H)
 | .panic x=>match x.evE E with
   | .iface t v=>some (.pan (.iface t v),H)
   |_=>none
 | .dfr x args=>match x.evE E with
   | .fn f caps=>some (.dfr (.call f (args.map (·.evE E)++caps)),H)
   |_=>none
 | .mkslicem sz bytes zs l c=>match madeN sz bytes zs (l.evE E) (c.evE E)with
   |some n=>some (.val (.msl sz H.length 0 n),H++[.cells (repL n zs)])
   |none=>none
 | .bsmem sz len zs ps=>match fillL zs (evPE E ps)with
   |some cs=>if allOne cs&&cs.length==len*sz then some (.val (.rsl sz H.length len),H++[.cells cs])else none
   |none=>none
 | .appz sz bytes zs x n=>match x.evE E,madeN sz bytes zs (n.evE E) (n.evE E)with
   | .sl sz' k cs (.own g),some m=>appV sz bytes (.sl sz' k cs (.own g)) (.sl sz m (repL m zs) .ro) H
   | .rsl sz' id k,some m=>appR sz bytes (.rsl sz' id k) (.sl sz m (repL m zs) .ro) H
   |_,_=>none
 |_=>none
theorem avalE_len {k:Nat} {x:X} {E:Env} {H:Heap}:avalE (.len k x) E H=(match k,x.evE E with
   |0,.sl _ n _ _=>some (.int .i64 n)
   |0,.msl _ _ _ n=>some (.int .i64 n)
   |0,.rsl _ _ n=>some (.int .i64 n)
   |1,.str s=>some (.int .i64 s.size)
   |2,.nilm=>some (.int .i64 0)
   | 2,.mp id=>match H[id]? with
     |some (.map es)=>some (.int .i64 es.length)
     |_=>none
   |_,_=>none):=(rfl)
theorem avalE_conv {k:CvK} {x:X} {E:Env} {H:Heap}:avalE (.conv k x) E H=(match k,x.evE E with
   | .int k,.int _ n=>some (.int k (k.wrap n))
   | .same,.str s=>some (.str s)
   | .s2b,.str s=>if s.size<=70368744177664 then some (.sl 1 s.size (bytesA s) .ro)else none
   | .b2s,.sl sz n cs _=>if sz=1∨n=0 then(unbytes (cs.take n)).map fun l=> .str ⟨l.toArray⟩else none
   |_,_=>none):=(rfl)
def EV (tm:List AV):Env:=fun i=>tm.getD i (.tup [])
theorem ev_EV (tm:List AV) (x:X):x.ev tm=x.evE (EV tm):=by cases x<;>rfl
theorem evP_EV (tm:List AV):∀ps,evP tm ps=evPE (EV tm) ps
 |[]=>rfl
 |(o,s,x)::r=>by simp only[evP,evPE,ev_EV,evP_EV tm r]
theorem bound_EV (tm:List AV) (x:Option X) (d:Nat):bound tm x d=boundE (EV tm) x d:=by
 cases x with
 |none=>rfl
 |some x=>simp only[bound,boundE,ev_EV]
theorem aval_EV (tm:List AV) (o:AOp) (H:Heap):aval o tm H=avalE o (EV tm) H:=by
 have h:(fun x:X=>x.ev tm)=(fun x:X=>x.evE (EV tm)):=funext (ev_EV tm)
 cases o<;>(try simp only[aval,avalE,ev_EV,evP_EV,bound_EV])<;>(try rfl)
theorem aact_EV (tm:List AV) (o:AOp) (H:Heap):aact o tm H=aactE o (EV tm) H:=by
 have h:(fun x:X=>x.ev tm)=(fun x:X=>x.evE (EV tm)):=funext (ev_EV tm)
 cases o<;>(try simp only[aact,aactE,ev_EV,evP_EV])<;>(try rfl)
def wantedE (E:Env) (g:Option (Nat×Bool)):Bool:=
 match g with
 |none=>true
 | some (t,b)=>match E t with
   | .bool b'=>b'==b
   |_=>false
theorem wanted_EV (tm:List AV) (g:Option (Nat×Bool)):wantedA tm g=wantedE (EV tm) g:=by
 cases g with
 |none=>rfl
 | some g=>
   obtain⟨t,b⟩:=g
   simp only[wantedA,wantedE,EV,List.getD]
   cases tm[t]? with
   |none=>rfl
   |some v=>cases v<;>rfl
def Ag (n:Nat) (tm:List AV) (E:Env):Prop:=tm.length=n/\EV tm=E
theorem Ag.set {n:Nat} {tm:List AV} {E:Env} (h:Ag n tm E) {j:Nat} (hj:j<n) (v:AV):Ag n (tm.set j v) (upd E j v):=by
 refine⟨by rw[List.length_set];exact h.1, ?_⟩
 rw[<-h.2]
 funext i
 simp only[EV,upd,List.getD,List.getElem?_set]
 by_cases hi:j=i
 . subst hi;simp[h.1,hj]
 . rw[if_neg hi,if_neg (fun e=>hi e.symm)]
def fitsD (n:Nat):Option Nat->Bool
 |some d=>Nat.blt d n
 |none=>true
theorem Ag.putD {n:Nat} {tm:List AV} {E:Env} (h:Ag n tm E) {d:Option Nat} (hj:fitsD n d=true) (v:AV):Ag n (putD tm d v) (updD E d v):=by
 cases d with
 |none=>exact h
 |some d=>exact h.set (by simpa[fitsD,Nat.blt_eq] using hj) v
def fitsO (n:Nat):List AOper->Bool
 |[]=>true
 |o::r=>fitsD n o.dst&&fitsO n r
def ACode.fits (n:Nat):ACode->Bool
 | .region ops=>fitsO n ops
 | .drawn a b=>fitsO n a&&fitsO n b
 | .seq a b=>a.fits n&&b.fits n
 | .cond _ a b=>a.fits n&&b.fits n
 | .block _ a=>a.fits n
 | .loop a=>a.fits n
 | .range _ _ a b=>a.fits n&&b.fits n
 | .scope a=>a.fits n
 | .inscope a b=>a.fits n&&b.fits n
 |_=>true
abbrev KP:=Ex->Env->List ADf->Heap->Prop
def wpr (cb:CB) (K:KP):List AOper->Env->List ADf->Heap->Prop
 |[],E,df,H=>K .normal E df H
 | o::rest,E,df,H=>
   if wantedE E o.guard then
     match avalE o.op E H with
     |some v=>wpr cb K rest (updD E o.dst v) df H
     | none=>
       match aactE o.op E H with
       |some (.val v,H')=>wpr cb K rest (updD E o.dst v) df H'
       |some (.skip,H')=>wpr cb K rest (updD E o.dst (.tup [])) df H'
       | some (.enter f args,H')=>
         match enterA cb f args H' with
         |some (.ret v,H'')=>wpr cb K rest (updD E o.dst v) df H''
         |some (.pan c,H'')=>K (.panic c) E df H''
         |none=>False
       | some (.enterm rw f args,H')=>
         match enterM cb rw f args H' with
         |some (.ret v,H'')=>wpr cb K rest (updD E o.dst v) df H''
         |some (.pan c,H'')=>K (.panic c) E df H''
         |none=>False
       | some (.yield id args,H')=>
         match cb.yl id args H' with
         |some (.ret v,H'')=>wpr cb K rest (updD E o.dst v) df H''
         |some (.pan c,H'')=>K (.panic c) E df H''
         |none=>False
       |some (.pan v,H')=>K (.panic [(v,false)]) E df H'
       |some (.dfr d,H')=>wpr cb K rest (updD E o.dst (.tup [])) (d::df) H'
       |_=>False
   else wpr cb K rest (updD E o.dst (.tup [])) df H
def noDfr:List AOper->Bool
 |[]=>true
 |o::r=>(match o.op with| .dfr _ _=>false|_=>true)&&noDfr r
def ACode.plain:ACode->Bool
 | .region ops=>noDfr ops
 | .drawn _ b=>noDfr b
 | .seq a b=>a.plain&&b.plain
 | .cond _ a b=>a.plain&&b.plain
 | .block _ a=>a.plain
 | .loop a=>a.plain
 | .range _ _ _ _=>false
 | .scope a=>a.plain
 | .inscope a b=>a.plain&&b.plain
 |_=>true
def okIn (rd:Option Nat) (c:ACode):Prop:=rd=none∨c.plain=true
def okInR (rd:Option Nat) (c:List AOper):Prop:=rd=none∨noDfr c=true
theorem wpr_ok {cb:CB} {rd:Option Nat} {n:Nat} {K:KP}:∀(ops:List AOper) (E:Env) (df:List ADf) (H:Heap) (tm:List AV),fitsO n ops=true->okInR rd ops->Ag n tm E->wpr cb K ops E df H→
   ∃e fr H',aregion cb rd ops ⟨tm,df⟩ H=some (e,fr,H')/\∃E',Ag n fr.tm E'/\K e E' fr.df H':=by
 intro ops
 induction ops with
 |nil=>intro E df H tm _ _ ha h;exact⟨.normal,_,_,rfl,E,ha,h⟩
 | cons o ops ih=>
   intro E df H tm hf hok ha h
   simp only[fitsO,Bool.and_eq_true]at hf
   have hok':okInR rd ops:=by
     rcases hok with h|h
     . exact .inl h
     . simp only[noDfr,Bool.and_eq_true]at h;exact .inr h.2
   have hE:=ha.2
   rw[aregion]
   rw[wpr]at h
   simp only[wanted_EV,aval_EV,aact_EV,hE]
   split at h
   . rename_i hw
     rw[if_pos hw]
     split at h
     . rename_i hv;rw[hv];exact ih _ _ _ _ hf.2 hok' (ha.putD hf.1 _) h
     . rename_i hv
       rw[hv]
       simp only
       split at h
       . rename_i hx;rw[hx];exact ih _ _ _ _ hf.2 hok' (ha.putD hf.1 _) h
       . rename_i hx;rw[hx];exact ih _ _ _ _ hf.2 hok' (ha.putD hf.1 _) h
       . rename_i hx
         rw[hx]
         simp only
         split at h
         . rename_i hy;rw[hy];exact ih _ _ _ _ hf.2 hok' (ha.putD hf.1 _) h
         . rename_i hy;rw[hy];exact⟨_,_,_,rfl,E,ha,h⟩
         . exact h.elim
       . rename_i hx
         rw[hx]
         simp only
         split at h
         . rename_i hy;rw[hy];exact ih _ _ _ _ hf.2 hok' (ha.putD hf.1 _) h
         . rename_i hy;rw[hy];exact⟨_,_,_,rfl,E,ha,h⟩
         . exact h.elim
       . rename_i hx
         rw[hx]
         simp only
         split at h
         . rename_i hy;rw[hy];exact ih _ _ _ _ hf.2 hok' (ha.putD hf.1 _) h
         . rename_i hy;rw[hy];exact⟨_,_,_,rfl,E,ha,h⟩
         . exact h.elim
       . rename_i hx;rw[hx];exact⟨_,_,_,rfl,E,ha,h⟩
       . rename_i d H' hx
         rw[hx]
         simp only
         have hrd:rd.isSome=false:=by
           rcases hok with h|h
           . rw[h];rfl
           . simp only[noDfr,Bool.and_eq_true]at h
             have h1:=h.1
             exfalso
             revert hx h1
             cases o.op<;>simp only[aactE]<;>intro hx h1<;>(try cases h1)<;>(try (cases hx))<;>(repeat' split at hx)<;>(try cases hx)<;>(try (simp only[appV,appR]at hx))<;>(repeat' split at hx)<;>(try cases hx)
         simp only[hrd,Bool.false_eq_true,if_false]
         exact ih _ _ _ _ hf.2 hok' (ha.putD hf.1 _) h
       . exact h.elim
   . rename_i hw
     rw[if_neg hw]
     exact ih _ _ _ _ hf.2 hok' (ha.putD hf.1 _) h
def apXE (h:Nat) (op:AOp) (E:Env) (G:Heap) (g:Nat):Option (AV×Option AObj):=
 match op with
 | .appf sz bytes x y=>appF sz bytes (x.evE E) (y.evE E) g
 | .appg sz bytes zs x n=>appG h sz bytes zs (x.evE E) (n.evE E) G g
 |_=>none
theorem apX_EV (h:Nat) (op:AOp) (tm:List AV) (G:Heap) (g:Nat):apX h op tm G g=apXE h op (EV tm) G g:=by
 cases op<;>simp only[apX,apXE,ev_EV]
def ap1E (cb:CB) (H G:Heap) (o:AOper) (E:Env) (g:Nat):Option (AV×Option AObj):=
 if wantedE E o.guard then
   match avalE o.op E H with
   |some v=>some (v,none)
   | none=>
     match o.op with
     | .alloc zs=>some (.ptr g 0,some (.cells zs))
     | .lookup kk zero (.t i) k ok=>(avalE (.lookup kk zero (.t i) k ok) E G).map fun v=>(v,none)
     | .callf f args=>
       match pcx cb f (args.map (·.evE E)) H with
       |some (.plain v)=>some (v,none)
       |some (.fresh sz n cs)=>some (.sl sz n cs (.own g),some (.tok sz))
       |some (.fmap es)=>some (.mp g,some (.map es))
       |_=>none
     | .callv x args=>
       match calleeA (x.evE E) (args.map (·.evE E))with
       | some (f,as)=>
         match pcx cb f as H with
         |some (.plain v)=>some (v,none)
         |some (.fresh sz n cs)=>some (.sl sz n cs (.own g),some (.tok sz))
         |some (.fmap es)=>some (.mp g,some (.map es))
         |_=>none
       |none=>none
     | .callw f args=>
       match pcx cb f (args.map (·.evE E)) H with
       |some (.fresh sz n cs)=>if cs.all (·.scal)&&cs.length==n*sz then some (.msl sz g 0 n,some (.cells cs))else none
       |_=>none
     | .boxd x=>if allOne (x.evE E).flat then some (.ptr g 0,some (.cells (x.evE E).flat))else none
     |op=>apXE H.length op E G g
 else some (.tup [],none)
def killOE (o:AOper) (E:Env):Option Nat:=
 match o.op with
 | .appg _ _ _ x _=>if wantedE E o.guard then(match x.evE E with
   | .sl _ _ _ (.own g0)=>some g0
   |_=>none)else none
 |_=>none
theorem killOf_EV (o:AOper) (tm:List AV):killOf o tm=killOE o (EV tm):=by
 unfold killOf killOE
 rw[wanted_EV]
 cases o.op<;>(try simp only[ev_EV])<;>(try rfl)<;>(split<;>rfl)
theorem ap1_EV (cb:CB) (H G:Heap) (o:AOper) (tm:List AV) (g:Nat):ap1 cb H G o tm g=ap1E cb H G o (EV tm) g:=by
 have h:(fun x:X=>x.ev tm)=(fun x:X=>x.evE (EV tm)):=funext (ev_EV tm)
 simp only[ap1,ap1E,wanted_EV,aval_EV,apX_EV]
 cases o.op<;>(try simp only[ev_EV])<;>(try rfl)
def hpush (H:Heap) (e:List AObj):Heap:=H++e
def wpre (cb:CB) (H:Heap) (K:Env->List AObj->Prop):List AOper->Env->List AObj->Prop
 |[],E,e=>K E e
 | o::rest,E,e=>
   match ap1E cb H (hpush H e) o E (H.length+e.length)with
   |some (v,k)=>wpre cb H K rest (updD E o.dst v) (killE H.length (killOE o E) (e++k.toList))
   |none=>False
theorem wpre_ok {cb:CB} {n:Nat} {H:Heap} {K:Env->List AObj->Prop}:∀(ops:List AOper) (E:Env) (e:List AObj) (tm:List AV),fitsO n ops=true->Ag n tm E->wpre cb H K ops E e→
   ∃tm' e',apre cb H ops tm e=some (tm',e')/\∃E',Ag n tm' E'/\K E' e':=by
 intro ops
 induction ops with
 |nil=>intro E e tm _ ha h;exact⟨_,_,rfl,E,ha,h⟩
 | cons o ops ih=>
   intro E e tm hf ha h
   simp only[fitsO,Bool.and_eq_true]at hf
   rw[apre,ap1_EV,ha.2]
   rw[wpre]at h
   split at h
   . rename_i hv;rw[show H++e=hpush H e from rfl,hv];rw[killOf_EV,ha.2];exact ih _ _ _ hf.2 (ha.putD hf.1 _) h
   . exact h.elim
def Again (cb:CB) (rd:Option Nat) (n:Nat) (c:ACode) (K:KP) (E:Env) (df:List ADf) (H:Heap):Prop:=
 ∀tm,Ag n tm E->∃e fr H',cb.run rd c ⟨tm,df⟩ H=some (e,fr,H')/\∃E',Ag n fr.tm E'/\K e E' fr.df H'
def RangeP (cb:CB) (rd:Option Nat) (n:Nat) (x:X) (ps:List Nat) (as bd:ACode) (K:KP) (E:Env) (df:List ADf) (H:Heap):Prop:=
 ∀ tm,Ag n tm E→
   match (match rd with
     |none=>some (H.length+1,.mark H.length::df,H++[.defd,.loop 0 .normal tm ps as bd])
     | some l=>match readLoop H l with
       |some _=>some (H.length,df,H++[.loop 0 .normal tm ps as bd])
       |none=>none)with
   | some (id,df1,H1)=>
     match x.evE E with
     | .fn f caps=>
       match cb.ic f (.yld id::caps) H1 with
       | some (.ret _,H2)=>
         match readLoop H2 id with
         |some (st,pend,tm',ps',as',bd')=>st≠1/\pend.jumps=true/\K pend E df1 (H2.set id (.loop 3 pend tm' ps' as' bd'))
         |none=>False
       |_=>False
     |_=>False
   |none=>False
def wpc (cb:CB) (rd:Option Nat) (n:Nat):ACode->KP->Env->List ADf->Heap->Prop
 | .skip,K,E,df,H=>K .normal E df H
 | .label _,K,E,df,H=>K .normal E df H
 | .exit id,K,E,df,H=>K (.exit id) E df H
 | .goto l,K,E,df,H=>K (.goto l) E df H
 | .ret,K,E,df,H=>K .ret E df H
 | .region ops,K,E,df,H=>wpr cb K ops E df H
 | .drawn pre tail,K,E,df,H=>wpre cb H (fun E' e=>wpr cb K tail E' df (H++e)) pre E []
 | .seq a b,K,E,df,H=>wpc cb rd n a (fun e E' df' H'=>match e with| .normal=>wpc cb rd n b K E' df' H'|e=>K e E' df' H') E df H
 | .cond x a b,K,E,df,H=>match x.evE E with
   | .bool true=>wpc cb rd n a K E df H
   | .bool false=>wpc cb rd n b K E df H
   |_=>False
 | .block id a,K,E,df,H=>wpc cb rd n a (fun e E' df' H'=>match e with| .exit id'=>if id'=id then K .normal E' df' H' else K (.exit id') E' df' H'|e=>K e E' df' H') E df H
 | .loop a,K,E,df,H=>wpc cb rd n a (fun e E' df' H'=>match e with| .normal=>Again cb rd n (.loop a) K E' df' H'|e=>K e E' df' H') E df H
 | .scope a,K,E,df,H=>wpc cb rd n a (fun e E' df' H'=>match e with
   | .goto l=>match findL a l with
     |some rest=>Again cb rd n (.inscope a rest) K E' df' H'
     |none=>K (.goto l) E' df' H'
   |e=>K e E' df' H') E df H
 | .inscope w a,K,E,df,H=>wpc cb rd n a (fun e E' df' H'=>match e with
   | .goto l=>match findL w l with
     |some rest=>Again cb rd n (.inscope w rest) K E' df' H'
     |none=>K (.goto l) E' df' H'
   |e=>K e E' df' H') E df H
 | .range x ps as bd,K,E,df,H=>RangeP cb rd n x ps as bd K E df H
def ACode.rng:ACode->Bool
 | .range _ _ _ _=>true
 | .seq a b=>a.rng||b.rng
 | .cond _ a b=>a.rng||b.rng
 | .block _ a=>a.rng
 | .loop a=>a.rng
 | .scope a=>a.rng
 | .inscope a b=>a.rng||b.rng
 |_=>false
def ACode.nodf:ACode->Bool
 | .region ops=>noDfr ops
 | .drawn _ b=>noDfr b
 | .seq a b=>a.nodf&&b.nodf
 | .cond _ a b=>a.nodf&&b.nodf
 | .block _ a=>a.nodf
 | .loop a=>a.nodf
 | .range _ _ _ _=>true
 | .scope a=>a.nodf
 | .inscope a b=>a.nodf&&b.nodf
 |_=>true
theorem wpc_ok {cb:CB} {rd:Option Nat} {n:Nat}:∀(c:ACode) (K:KP) (E:Env) (df:List ADf) (H:Heap) (tm:List AV),c.fits n=true->(rd=none∨c.nodf=true)->Ag n tm E->wpc cb rd n c K E df H→
   ∃e fr H',acode cb rd c ⟨tm,df⟩ H=some (e,fr,H')/\∃E',Ag n fr.tm E'/\K e E' fr.df H':=by
 intro c
 induction c with
 |skip=>intro K E df H tm _ _ ha h;exact⟨_,_,_,rfl,E,ha,h⟩
 |label l=>intro K E df H tm _ _ ha h;exact⟨_,_,_,rfl,E,ha,h⟩
 |exit l=>intro K E df H tm _ _ ha h;exact⟨_,_,_,rfl,E,ha,h⟩
 |goto l=>intro K E df H tm _ _ ha h;exact⟨_,_,_,rfl,E,ha,h⟩
 |ret=>intro K E df H tm _ _ ha h;exact⟨_,_,_,rfl,E,ha,h⟩
 |region ops=>intro K E df H tm hf ho ha h;exact wpr_ok ops E df H tm hf ho ha h
 | drawn pre tail=>
   intro K E df H tm hf ho ha h
   simp only[ACode.fits,Bool.and_eq_true]at hf
   obtain⟨tm',e',h1,E',h2,h3⟩:=wpre_ok pre E [] tm hf.1 ha h
   rw[acode,h1]
   exact wpr_ok tail E' df _ tm' hf.2 ho h2 h3
 | seq a b iha ihb=>
   intro K E df H tm hf ho ha h
   simp only[ACode.fits,Bool.and_eq_true]at hf
   obtain⟨e,fr,H',h1,E',h2,h3⟩:=iha _ E df H tm hf.1 (ho.imp id fun h=>by simp only[ACode.nodf,Bool.and_eq_true]at h;exact h.1) ha h
   rw[acode,h1]
   cases e with
   |normal=>exact ihb K E' fr.df H' fr.tm hf.2 (ho.imp id fun h=>by simp only[ACode.nodf,Bool.and_eq_true]at h;exact h.2) h2 h3
   |_=>exact⟨_,_,_,rfl,E',h2,h3⟩
 | cond x a b iha ihb=>
   intro K E df H tm hf ho ha h
   simp only[ACode.fits,Bool.and_eq_true]at hf
   rw[acode]
   simp only[ev_EV,ha.2]
   rw[wpc]at h
   split at h
   . rename_i hv;rw[hv];exact iha K E df H tm hf.1 (ho.imp id fun h=>by simp only[ACode.nodf,Bool.and_eq_true]at h;exact h.1) ha h
   . rename_i hv;rw[hv];exact ihb K E df H tm hf.2 (ho.imp id fun h=>by simp only[ACode.nodf,Bool.and_eq_true]at h;exact h.2) ha h
   . exact h.elim
 | block id a ih=>
   intro K E df H tm hf ho ha h
   obtain⟨e,fr,H',h1,E',h2,h3⟩:=ih _ E df H tm hf ho ha h
   rw[acode,h1]
   cases e with
   | exit id'=>
     simp only at h3 ⊢
     split at h3
     . rename_i hv;rw[if_pos hv];exact⟨_,_,_,rfl,E',h2,h3⟩
     . rename_i hv;rw[if_neg hv];exact⟨_,_,_,rfl,E',h2,h3⟩
   |_=>exact⟨_,_,_,rfl,E',h2,h3⟩
 | loop a ih=>
   intro K E df H tm hf ho ha h
   obtain⟨e,fr,H',h1,E',h2,h3⟩:=ih _ E df H tm hf ho ha h
   rw[acode,h1]
   cases e with
   |normal=>exact h3 fr.tm h2
   |_=>exact⟨_,_,_,rfl,E',h2,h3⟩
 | scope a ih=>
   intro K E df H tm hf ho ha h
   obtain⟨e,fr,H',h1,E',h2,h3⟩:=ih _ E df H tm hf ho ha h
   rw[acode,h1]
   cases e with
   | goto l=>
     simp only at h3 ⊢
     split at h3
     . rename_i hv;rw[hv];exact h3 fr.tm h2
     . rename_i hv;rw[hv];exact⟨_,_,_,rfl,E',h2,h3⟩
   |_=>exact⟨_,_,_,rfl,E',h2,h3⟩
 | inscope w a ihw ih=>
   intro K E df H tm hf ho ha h
   simp only[ACode.fits,Bool.and_eq_true]at hf
   obtain⟨e,fr,H',h1,E',h2,h3⟩:=ih _ E df H tm hf.2 (ho.imp id fun h=>by simp only[ACode.nodf,Bool.and_eq_true]at h;exact h.2) ha h
   rw[acode,h1]
   cases e with
   | goto l=>
     simp only at h3 ⊢
     split at h3
     . rename_i hv;rw[hv];exact h3 fr.tm h2
     . rename_i hv;rw[hv];exact⟨_,_,_,rfl,E',h2,h3⟩
   |_=>exact⟨_,_,_,rfl,E',h2,h3⟩
 | range x ps as bd=>
   intro K E df H tm _ _ ha h
   unfold acode
   simp only[ev_EV,ha.2]
   unfold wpc RangeP at h
   have h:=h tm ha
   cases rd with
   | none=>
     simp only at h ⊢
     split at h
     . rename_i f caps hx
       rw[hx]
       simp only
       split at h
       . rename_i v H2 hic
         rw[hic]
         simp only
         split at h
         . rename_i st pend tm' ps' as' bd' hrl
           rw[hrl]
           obtain⟨k1,k2,k3⟩:=h
           simp only
           rw[if_neg (by simp[k1,k2])]
           exact⟨_,_,_,rfl,E,ha,k3⟩
         . exact h.elim
       . exact h.elim
     . exact h.elim
   | some l=>
     simp only at h ⊢
     split at h
     . rename_i id df1 H1 heq
       split at heq
       . rename_i hrl0
         cases heq
         rw[hrl0]
         simp only
         split at h
         . rename_i f caps hx
           rw[hx]
           simp only
           split at h
           . rename_i v H2 hic
             rw[hic]
             simp only
             split at h
             . rename_i st pend tm' ps' as' bd' hrl
               rw[hrl]
               obtain⟨k1,k2,k3⟩:=h
               simp only
               rw[if_neg (by simp[k1,k2])]
               exact⟨_,_,_,rfl,E,ha,k3⟩
             . exact h.elim
           . exact h.elim
         . exact h.elim
       . cases heq
     . exact h.elim
theorem again_ok {tab:FuncId->Option AFun} {rd:Option Nat} {n:Nat} {c:ACode} {K:KP} {E:Env} {df:List ADf} {H:Heap} (hf:c.fits n=true) (ho:rd=none∨c.nodf=true) (h:wpc (cbL tab) rd n c K E df H):Again (cbL tab) rd n c K E df H:=by
 intro tm ha
 obtain⟨e,fr,H',h1,h2⟩:=wpc_ok c K E df H tm hf ho ha h
 exact⟨e,fr,H',run_of h1,h2⟩
inductive Kt where
 |code (c:ACode)
 |blk (id:Nat)
 |again (c:ACode)
 |scp (w:ACode)
def Ret (cb:CB) (rd:Option Nat) (n:Nat) (Q:KP):List Kt->KP
 |[],e,E,df,H=>Q e E df H
 | .code c::ks,.normal,E,df,H=>wpc cb rd n c (Ret cb rd n Q ks) E df H
 | .again c::ks,.normal,E,df,H=>Again cb rd n c (Ret cb rd n Q ks) E df H
 | .blk id::ks,.exit j,E,df,H=>if j=id then Ret cb rd n Q ks .normal E df H else Ret cb rd n Q ks (.exit j) E df H
 | .scp w::ks,.goto l,E,df,H=>match findL w l with
   |some rest=>Again cb rd n (.inscope w rest) (Ret cb rd n Q ks) E df H
   |none=>Ret cb rd n Q ks (.goto l) E df H
 |_::ks,e,E,df,H=>Ret cb rd n Q ks e E df H
def RR (cb:CB) (rd:Option Nat) (n:Nat) (Q:KP) (ops:List AOper) (ks:List Kt) (E:Env) (df:List ADf) (H:Heap):Prop:=wpr cb (Ret cb rd n Q ks) ops E df H
section rules
variable {cb:CB} {rd:Option Nat} {n:Nat} {Q:KP} {ks:List Kt} {E:Env} {df:List ADf} {H:Heap}
theorem ret_nil {e:Ex}:Ret cb rd n Q [] e E df H=Q e E df H:=(rfl)
theorem ret_skip:Ret cb rd n Q (.code .skip::ks) .normal E df H=Ret cb rd n Q ks .normal E df H:=(rfl)
theorem ret_label {l:Nat}:Ret cb rd n Q (.code (.label l)::ks) .normal E df H=Ret cb rd n Q ks .normal E df H:=(rfl)
theorem ret_exit {id:Nat}:Ret cb rd n Q (.code (.exit id)::ks) .normal E df H=Ret cb rd n Q ks (.exit id) E df H:=(rfl)
theorem ret_goto {l:Nat}:Ret cb rd n Q (.code (.goto l)::ks) .normal E df H=Ret cb rd n Q ks (.goto l) E df H:=(rfl)
theorem ret_ret:Ret cb rd n Q (.code .ret::ks) .normal E df H=Ret cb rd n Q ks .ret E df H:=(rfl)
theorem ret_region {ops:List AOper}:Ret cb rd n Q (.code (.region ops)::ks) .normal E df H=RR cb rd n Q ops ks E df H:=(rfl)
theorem ret_seq {a b:ACode}:Ret cb rd n Q (.code (.seq a b)::ks) .normal E df H=Ret cb rd n Q (.code a:: .code b::ks) .normal E df H:=by
 show wpc cb rd n (.seq a b) _ E df H=wpc cb rd n a _ E df H
 rw[wpc]
 congr 1
 funext e E' df' H'
 cases e<;>rfl
theorem ret_block {a:ACode} {id:Nat}:Ret cb rd n Q (.code (.block id a)::ks) .normal E df H=Ret cb rd n Q (.code a:: .blk id::ks) .normal E df H:=by
 show wpc cb rd n (.block id a) _ E df H=wpc cb rd n a _ E df H
 rw[wpc]
 congr 1
 funext e E' df' H'
 cases e<;>rfl
theorem ret_loop {a:ACode}:Ret cb rd n Q (.code (.loop a)::ks) .normal E df H=Ret cb rd n Q (.code a:: .again (.loop a)::ks) .normal E df H:=by
 show wpc cb rd n (.loop a) _ E df H=wpc cb rd n a _ E df H
 rw[wpc]
 congr 1
 funext e E' df' H'
 cases e<;>rfl
theorem ret_scope {a:ACode}:Ret cb rd n Q (.code (.scope a)::ks) .normal E df H=Ret cb rd n Q (.code a:: .scp a::ks) .normal E df H:=by
 show wpc cb rd n (.scope a) _ E df H=wpc cb rd n a _ E df H
 rw[wpc]
 congr 1
 funext e E' df' H'
 cases e<;>rfl
theorem ret_inscope {w a:ACode}:Ret cb rd n Q (.code (.inscope w a)::ks) .normal E df H=Ret cb rd n Q (.code a:: .scp w::ks) .normal E df H:=by
 show wpc cb rd n (.inscope w a) _ E df H=wpc cb rd n a _ E df H
 rw[wpc]
 congr 1
 funext e E' df' H'
 cases e<;>rfl
def CondK (v:AV) (a b:ACode) (cb:CB) (rd:Option Nat) (n:Nat) (Q:KP) (ks:List Kt) (E:Env) (df:List ADf) (H:Heap):Prop:=
 match v with
 | .bool true=>Ret cb rd n Q (.code a::ks) .normal E df H
 | .bool false=>Ret cb rd n Q (.code b::ks) .normal E df H
 |_=>False
theorem ret_cond {x:X} {a b:ACode}:Ret cb rd n Q (.code (.cond x a b)::ks) .normal E df H=CondK (x.evE E) a b cb rd n Q ks E df H:=(rfl)
theorem condK_true {a b:ACode}:CondK (.bool true) a b cb rd n Q ks E df H=Ret cb rd n Q (.code a::ks) .normal E df H:=(rfl)
theorem condK_false {a b:ACode}:CondK (.bool false) a b cb rd n Q ks E df H=Ret cb rd n Q (.code b::ks) .normal E df H:=(rfl)
theorem condK_dt {p:Prop} [Decidable p] {a b:ACode} (h:p):CondK (.bool (decide p)) a b cb rd n Q ks E df H=Ret cb rd n Q (.code a::ks) .normal E df H:=by
 rw[decide_eq_true h];rfl
theorem condK_df {p:Prop} [Decidable p] {a b:ACode} (h:¬p):CondK (.bool (decide p)) a b cb rd n Q ks E df H=Ret cb rd n Q (.code b::ks) .normal E df H:=by
 rw[decide_eq_false h];rfl
theorem ret_code_exit {c:ACode} {j:Nat}:Ret cb rd n Q (.code c::ks) (.exit j) E df H=Ret cb rd n Q ks (.exit j) E df H:=(rfl)
theorem ret_code_goto {c:ACode} {j:Nat}:Ret cb rd n Q (.code c::ks) (.goto j) E df H=Ret cb rd n Q ks (.goto j) E df H:=(rfl)
theorem ret_code_ret {c:ACode}:Ret cb rd n Q (.code c::ks) .ret E df H=Ret cb rd n Q ks .ret E df H:=(rfl)
theorem ret_code_panic {c:ACode} {p:List (AV×Bool)}:Ret cb rd n Q (.code c::ks) (.panic p) E df H=Ret cb rd n Q ks (.panic p) E df H:=(rfl)
theorem ret_again_exit {c:ACode} {j:Nat}:Ret cb rd n Q (.again c::ks) (.exit j) E df H=Ret cb rd n Q ks (.exit j) E df H:=(rfl)
theorem ret_again_goto {c:ACode} {j:Nat}:Ret cb rd n Q (.again c::ks) (.goto j) E df H=Ret cb rd n Q ks (.goto j) E df H:=(rfl)
theorem ret_again_ret {c:ACode}:Ret cb rd n Q (.again c::ks) .ret E df H=Ret cb rd n Q ks .ret E df H:=(rfl)
theorem ret_again_panic {c:ACode} {p:List (AV×Bool)}:Ret cb rd n Q (.again c::ks) (.panic p) E df H=Ret cb rd n Q ks (.panic p) E df H:=(rfl)
theorem ret_blk_normal {id:Nat}:Ret cb rd n Q (.blk id::ks) .normal E df H=Ret cb rd n Q ks .normal E df H:=(rfl)
theorem ret_blk_exit {id j:Nat}:Ret cb rd n Q (.blk id::ks) (.exit j) E df H=if j=id then Ret cb rd n Q ks .normal E df H else Ret cb rd n Q ks (.exit j) E df H:=(rfl)
theorem ret_blk_goto {id j:Nat}:Ret cb rd n Q (.blk id::ks) (.goto j) E df H=Ret cb rd n Q ks (.goto j) E df H:=(rfl)
theorem ret_blk_ret {id:Nat}:Ret cb rd n Q (.blk id::ks) .ret E df H=Ret cb rd n Q ks .ret E df H:=(rfl)
theorem ret_blk_panic {id:Nat} {p:List (AV×Bool)}:Ret cb rd n Q (.blk id::ks) (.panic p) E df H=Ret cb rd n Q ks (.panic p) E df H:=(rfl)
theorem ret_scp_normal {w:ACode}:Ret cb rd n Q (.scp w::ks) .normal E df H=Ret cb rd n Q ks .normal E df H:=(rfl)
theorem ret_scp_exit {w:ACode} {j:Nat}:Ret cb rd n Q (.scp w::ks) (.exit j) E df H=Ret cb rd n Q ks (.exit j) E df H:=(rfl)
theorem ret_scp_ret {w:ACode}:Ret cb rd n Q (.scp w::ks) .ret E df H=Ret cb rd n Q ks .ret E df H:=(rfl)
theorem ret_scp_panic {w:ACode} {p:List (AV×Bool)}:Ret cb rd n Q (.scp w::ks) (.panic p) E df H=Ret cb rd n Q ks (.panic p) E df H:=(rfl)
theorem ret_scp_goto {w rest:ACode} {l:Nat} (h:findL w l=some rest):Ret cb rd n Q (.scp w::ks) (.goto l) E df H=Ret cb rd n Q (.again (.inscope w rest)::ks) .normal E df H:=by
 show(match findL w l with|some rest=>Again cb rd n (.inscope w rest) (Ret cb rd n Q ks) E df H|none=>Ret cb rd n Q ks (.goto l) E df H)=_
 rw[h]
 rfl
theorem ret_again {tab:FuncId->Option AFun} {c:ACode} (hf:c.fits n=true) (ho:rd=none∨c.nodf=true) (h:Ret (cbL tab) rd n Q (.code c::ks) .normal E df H):Ret (cbL tab) rd n Q (.again c::ks) .normal E df H:=again_ok hf ho h
theorem loop_ind {tab:FuncId->Option AFun} {α:Type} (P:α->Env->List ADf->Heap->Prop) (m:α->Nat) (a0:α) {a:ACode} (hf:a.fits n=true) (ho:rd=none∨a.nodf=true) (h0:P a0 E df H)
   (step:∀x E df H,(∀y E' df' H',m y<m x->P y E' df' H'->Ret (cbL tab) rd n Q (.again (.loop a)::ks) .normal E' df' H')->P x E df H->Ret (cbL tab) rd n Q (.code a:: .again (.loop a)::ks) .normal E df H):
   Ret (cbL tab) rd n Q (.code (.loop a)::ks) .normal E df H:=by
 have key:∀k x E df H,m x<k->P x E df H->Ret (cbL tab) rd n Q (.code (.loop a)::ks) .normal E df H:=by
   intro k
   induction k with
   |zero=>intro x E df H h;omega
   | succ k ih=>
     intro x E df H hx hp
     rw[ret_loop]
     exact step x E df H (fun y E' df' H' hy hp'=>ret_again hf ho (ih y E' df' H' (by omega) hp')) hp
 exact key _ a0 E df H (Nat.lt_succ_self _) h0
theorem rr_nil:RR cb rd n Q [] ks E df H=Ret cb rd n Q ks .normal E df H:=(rfl)
def RunV (o:Option AV) (d:Option Nat) (rest:List AOper) (cb:CB) (rd:Option Nat) (n:Nat) (Q:KP) (ks:List Kt) (E:Env) (df:List ADf) (H:Heap):Prop:=
 match o with
 |some v=>RR cb rd n Q rest ks (updD E d v) df H
 |none=>False
theorem runV_some {v:AV} {d:Option Nat} {rest:List AOper}:RunV (some v) d rest cb rd n Q ks E df H=RR cb rd n Q rest ks (updD E d v) df H:=(rfl)
def RunO (o:Option (Out×Heap)) (d:Option Nat) (rest:List AOper) (cb:CB) (rd:Option Nat) (n:Nat) (Q:KP) (ks:List Kt) (E:Env) (df:List ADf):Prop:=
 match o with
 |some (.ret v,H')=>RR cb rd n Q rest ks (updD E d v) df H'
 |some (.pan c,H')=>Ret cb rd n Q ks (.panic c) E df H'
 |none=>False
theorem runO_ret {v:AV} {H':Heap} {d:Option Nat} {rest:List AOper}:RunO (some (.ret v,H')) d rest cb rd n Q ks E df=RR cb rd n Q rest ks (updD E d v) df H':=(rfl)
theorem runO_pan {c:List (AV×Bool)} {H':Heap} {d:Option Nat} {rest:List AOper}:RunO (some (.pan c,H')) d rest cb rd n Q ks E df=Ret cb rd n Q ks (.panic c) E df H':=(rfl)
def RunX (o:Option (Nx×Heap)) (d:Option Nat) (rest:List AOper) (cb:CB) (rd:Option Nat) (n:Nat) (Q:KP) (ks:List Kt) (E:Env) (df:List ADf):Prop:=
 match o with
 |some (.val v,H')=>RR cb rd n Q rest ks (updD E d v) df H'
 |some (.skip,H')=>RR cb rd n Q rest ks (updD E d (.tup [])) df H'
 |some (.enter f args,H')=>RunO (enterA cb f args H') d rest cb rd n Q ks E df
 |some (.enterm rw f args,H')=>RunO (enterM cb rw f args H') d rest cb rd n Q ks E df
 |some (.yield id args,H')=>RunO (cb.yl id args H') d rest cb rd n Q ks E df
 |some (.pan v,H')=>Ret cb rd n Q ks (.panic [(v,false)]) E df H'
 |some (.dfr q,H')=>RR cb rd n Q rest ks (updD E d (.tup [])) (q::df) H'
 |_=>False
theorem runX_val {v:AV} {H':Heap} {d:Option Nat} {rest:List AOper}:RunX (some (.val v,H')) d rest cb rd n Q ks E df=RR cb rd n Q rest ks (updD E d v) df H':=(rfl)
theorem runX_skip {H':Heap} {d:Option Nat} {rest:List AOper}:RunX (some (.skip,H')) d rest cb rd n Q ks E df=RR cb rd n Q rest ks (updD E d (.tup [])) df H':=(rfl)
def RunE (o:Option PR) (f:FuncId) (args:List AV) (H':Heap) (d:Option Nat) (rest:List AOper) (cb:CB) (rd:Option Nat) (n:Nat) (Q:KP) (ks:List Kt) (E:Env) (df:List ADf):Prop:=
 RunO (match o with
   |some (.plain v)=>some (.ret v,H')
   |some (.fresh sz n cs)=>some (.ret (.sl sz n cs (.own H'.length)),H'++[.tok sz])
   |some (.fmap es)=>some (.ret (.mp H'.length),H'++[.map es])
   |some (.pan c)=>some (.pan c,H')
   |some (.fval _)=>none
   |none=>if cb.lent f then none else cb.ic f args H') d rest cb rd n Q ks E df
theorem runX_enter {f:FuncId} {args:List AV} {H':Heap} {d:Option Nat} {rest:List AOper}:RunX (some (.enter f args,H')) d rest cb rd n Q ks E df=RunE (pcx cb f args H') f args H' d rest cb rd n Q ks E df:=(rfl)
theorem runE_plain {v:AV} {f:FuncId} {args:List AV} {H':Heap} {d:Option Nat} {rest:List AOper}:RunE (some (.plain v)) f args H' d rest cb rd n Q ks E df=RR cb rd n Q rest ks (updD E d v) df H':=(rfl)
theorem runE_fresh {sz n':Nat} {cs:List AV} {f:FuncId} {args:List AV} {H':Heap} {d:Option Nat} {rest:List AOper}:RunE (some (.fresh sz n' cs)) f args H' d rest cb rd n Q ks E df=RR cb rd n Q rest ks (updD E d (.sl sz n' cs (.own H'.length))) df (H'++[.tok sz]):=(rfl)
theorem runE_fmap {es:List (AV×AV)} {f:FuncId} {args:List AV} {H':Heap} {d:Option Nat} {rest:List AOper}:RunE (some (.fmap es)) f args H' d rest cb rd n Q ks E df=RR cb rd n Q rest ks (updD E d (.mp H'.length)) df (H'++[.map es]):=(rfl)
theorem runE_pan {c:List (AV×Bool)} {f:FuncId} {args:List AV} {H':Heap} {d:Option Nat} {rest:List AOper}:RunE (some (.pan c)) f args H' d rest cb rd n Q ks E df=Ret cb rd n Q ks (.panic c) E df H':=(rfl)
theorem runE_none {f:FuncId} {args:List AV} {H':Heap} {d:Option Nat} {rest:List AOper} (hl:cb.lent f=false):RunE none f args H' d rest cb rd n Q ks E df=RunO (cb.ic f args H') d rest cb rd n Q ks E df:=by
 simp only[RunE,hl,Bool.false_eq_true,if_false]
theorem runX_enterm {rw:Bool} {f:FuncId} {args:List AV} {H':Heap} {d:Option Nat} {rest:List AOper}:RunX (some (.enterm rw f args,H')) d rest cb rd n Q ks E df=RunO (enterM cb rw f args H') d rest cb rd n Q ks E df:=(rfl)
theorem runX_yield {id:Nat} {args:List AV} {H':Heap} {d:Option Nat} {rest:List AOper}:RunX (some (.yield id args,H')) d rest cb rd n Q ks E df=RunO (cb.yl id args H') d rest cb rd n Q ks E df:=(rfl)
theorem runX_pan {v:AV} {H':Heap} {d:Option Nat} {rest:List AOper}:RunX (some (.pan v,H')) d rest cb rd n Q ks E df=Ret cb rd n Q ks (.panic [(v,false)]) E df H':=(rfl)
theorem runX_dfr {q:ADf} {H':Heap} {d:Option Nat} {rest:List AOper}:RunX (some (.dfr q,H')) d rest cb rd n Q ks E df=RR cb rd n Q rest ks (updD E d (.tup [])) (q::df) H':=(rfl)
def AOp.pure:AOp->Bool
 | .mv _=>true
 | .pick _ _ _=>true
 | .build _ _=>true
 | .bslice _ _ _ _=>true
 | .bsfull _ _ _ _=>true
 | .mm _ _ _=>true
 | .load _ _ _=>true
 | .fld _ _=>true
 | .part _ _ _ _=>true
 | .ixa _ _ _=>true
 | .ixarr _ _ _ _=>true
 | .ixv _ _ _ _ _=>true
 | .ixs _ _=>true
 | .bin _ _ _ _=>true
 | .un _ _=>true
 | .conv _ _=>true
 | .mkif _ _=>true
 | .mkfn _ _=>true
 | .chk _ _=>true
 | .boxe _=>true
 | .appc _ _ _ _=>true
 | .lookup _ _ _ _ _=>true
 | .tassert _ _ _ _=>true
 | .ext _ _=>true
 | .slice _ _ _ _=>true
 | .slstr _ _ _=>true
 | .slc3 _ _ _ _ _=>true
 | .len _ _=>true
 | .nilck _=>true
 | .alloc _=>false
 | .box _=>false
 | .store _ _ _=>false
 | .mkmap=>false
 | .mapup _ _ _ _=>false
 | .append _ _ _ _=>false
 | .appendm _ _ _ _=>false
 | .appendr _ _ _ _=>false
 | .callf _ _=>false
 | .callm _ _ _=>false
 | .callv _ _=>false
 | .recov=>false
 | .panic _=>false
 | .dfr _ _=>false
 | .mkslice _ _ _ _ _=>true
 | .mkbnd _ _=>true
 | .idxb _ _=>true
 | .cntb _ _=>true
 | .appf _ _ _ _=>false
 | .appg _ _ _ _ _=>false
 | .clr _ _ _=>false
 | .cpy _ _ _=>false
 | .callw _ _=>false
 | .boxd _=>false
 | .slarr _ _ _ _ _=>true
 | .s2arr _ _=>true
 | .mkslicem _ _ _ _ _=>false
 | .bsmem _ _ _ _=>false
 | .appz _ _ _ _ _=>false
theorem wpr_cons {K:KP} {d:Option Nat} {op:AOp} {rest:List AOper}:wpr cb K (⟨d,op,none⟩::rest) E df H=
   match avalE op E H with
     |some v=>wpr cb K rest (updD E d v) df H
     | none=>
       match aactE op E H with
       |some (.val v,H')=>wpr cb K rest (updD E d v) df H'
       |some (.skip,H')=>wpr cb K rest (updD E d (.tup [])) df H'
       | some (.enter f args,H')=>
         match enterA cb f args H' with
         |some (.ret v,H'')=>wpr cb K rest (updD E d v) df H''
         |some (.pan c,H'')=>K (.panic c) E df H''
         |none=>False
       | some (.enterm rw f args,H')=>
         match enterM cb rw f args H' with
         |some (.ret v,H'')=>wpr cb K rest (updD E d v) df H''
         |some (.pan c,H'')=>K (.panic c) E df H''
         |none=>False
       | some (.yield id args,H')=>
         match cb.yl id args H' with
         |some (.ret v,H'')=>wpr cb K rest (updD E d v) df H''
         |some (.pan c,H'')=>K (.panic c) E df H''
         |none=>False
       |some (.pan v,H')=>K (.panic [(v,false)]) E df H'
       |some (.dfr q,H')=>wpr cb K rest (updD E d (.tup [])) (q::df) H'
       |_=>False:=by
 rw[wpr]
 simp only[wantedE,if_true]
theorem rr_pure {d:Option Nat} {op:AOp} {rest:List AOper} (h:op.pure=true):RR cb rd n Q (⟨d,op,none⟩::rest) ks E df H=RunV (avalE op E H) d rest cb rd n Q ks E df H:=by
 show wpr cb _ _ E df H=_
 rw[wpr_cons]
 cases hv:avalE op E H with
 |some v=>rfl
 |none=>cases op<;>first|rfl|(cases h;done)|(cases hl;done)
theorem rr_act {d:Option Nat} {op:AOp} {rest:List AOper} (h:op.pure=false):RR cb rd n Q (⟨d,op,none⟩::rest) ks E df H=RunX (aactE op E H) d rest cb rd n Q ks E df:=by
 show wpr cb _ _ E df H=_
 rw[wpr_cons]
 have hv:avalE op E H=none:=by cases op<;>first|rfl|cases h
 rw[hv]
 simp only
 cases hx:aactE op E H with
 |none=>rfl
 | some q=>
   obtain⟨q,H'⟩:=q
   cases q with
   | enter f args=>
     simp only[RunX]
     cases hy:enterA cb f args H' with
     |none=>rfl
     |some r=>obtain⟨r,H''⟩:=r;cases r<;>rfl
   | enterm rw f args=>
     simp only[RunX]
     cases hy:enterM cb rw f args H' with
     |none=>rfl
     |some r=>obtain⟨r,H''⟩:=r;cases r<;>rfl
   | yield f args=>
     simp only[RunX]
     cases hy:cb.yl f args H' with
     |none=>rfl
     |some r=>obtain⟨r,H''⟩:=r;cases r<;>rfl
   |_=>rfl
theorem rr_mv {x:X} {d:Option Nat} {rest:List AOper}:RR cb rd n Q (⟨d,.mv x,none⟩::rest) ks E df H=RunV (avalE (.mv x) E H) d rest cb rd n Q ks E df H:=rr_pure rfl
theorem rr_pick {c:X} {a:X} {b:X} {d:Option Nat} {rest:List AOper}:RR cb rd n Q (⟨d,.pick c a b,none⟩::rest) ks E df H=RunV (avalE (.pick c a b) E H) d rest cb rd n Q ks E df H:=rr_pure rfl
theorem rr_build {zs:List AV} {ps:List (Nat×Nat×X)} {d:Option Nat} {rest:List AOper}:RR cb rd n Q (⟨d,.build zs ps,none⟩::rest) ks E df H=RunV (avalE (.build zs ps) E H) d rest cb rd n Q ks E df H:=rr_pure rfl
theorem rr_bsfull {sz:Nat} {len:Nat} {zs:List AV} {ps:List (Nat×Nat×X)} {d:Option Nat} {rest:List AOper}:RR cb rd n Q (⟨d,.bsfull sz len zs ps,none⟩::rest) ks E df H=RunV (avalE (.bsfull sz len zs ps) E H) d rest cb rd n Q ks E df H:=rr_pure rfl
theorem rr_mm {mx:Bool} {x:X} {y:X} {d:Option Nat} {rest:List AOper}:RR cb rd n Q (⟨d,.mm mx x y,none⟩::rest) ks E df H=RunV (avalE (.mm mx x y) E H) d rest cb rd n Q ks E df H:=rr_pure rfl
theorem rr_bslice {sz:Nat} {len:Nat} {zs:List AV} {ps:List (Nat×Nat×X)} {d:Option Nat} {rest:List AOper}:RR cb rd n Q (⟨d,.bslice sz len zs ps,none⟩::rest) ks E df H=RunV (avalE (.bslice sz len zs ps) E H) d rest cb rd n Q ks E df H:=rr_pure rfl
theorem rr_load {sz:Nat} {ag:Bool} {x:X} {d:Option Nat} {rest:List AOper}:RR cb rd n Q (⟨d,.load sz ag x,none⟩::rest) ks E df H=RunV (avalE (.load sz ag x) E H) d rest cb rd n Q ks E df H:=rr_pure rfl
theorem rr_fld {off:Nat} {x:X} {d:Option Nat} {rest:List AOper}:RR cb rd n Q (⟨d,.fld off x,none⟩::rest) ks E df H=RunV (avalE (.fld off x) E H) d rest cb rd n Q ks E df H:=rr_pure rfl
theorem rr_part {off:Nat} {sz:Nat} {ag:Bool} {x:X} {d:Option Nat} {rest:List AOper}:RR cb rd n Q (⟨d,.part off sz ag x,none⟩::rest) ks E df H=RunV (avalE (.part off sz ag x) E H) d rest cb rd n Q ks E df H:=rr_pure rfl
theorem rr_ixa {sz:Nat} {x:X} {i:X} {d:Option Nat} {rest:List AOper}:RR cb rd n Q (⟨d,.ixa sz x i,none⟩::rest) ks E df H=RunV (avalE (.ixa sz x i) E H) d rest cb rd n Q ks E df H:=rr_pure rfl
theorem rr_ixarr {n0:Nat} {sz:Nat} {x:X} {i:X} {d:Option Nat} {rest:List AOper}:RR cb rd n Q (⟨d,.ixarr n0 sz x i,none⟩::rest) ks E df H=RunV (avalE (.ixarr n0 sz x i) E H) d rest cb rd n Q ks E df H:=rr_pure rfl
theorem rr_ixv {n0:Nat} {sz:Nat} {ag:Bool} {x:X} {i:X} {d:Option Nat} {rest:List AOper}:RR cb rd n Q (⟨d,.ixv n0 sz ag x i,none⟩::rest) ks E df H=RunV (avalE (.ixv n0 sz ag x i) E H) d rest cb rd n Q ks E df H:=rr_pure rfl
theorem rr_ixs {x:X} {i:X} {d:Option Nat} {rest:List AOper}:RR cb rd n Q (⟨d,.ixs x i,none⟩::rest) ks E df H=RunV (avalE (.ixs x i) E H) d rest cb rd n Q ks E df H:=rr_pure rfl
theorem rr_bin {op:BinOp} {ek:EqK} {x:X} {y:X} {d:Option Nat} {rest:List AOper}:RR cb rd n Q (⟨d,.bin op ek x y,none⟩::rest) ks E df H=RunV (avalE (.bin op ek x y) E H) d rest cb rd n Q ks E df H:=rr_pure rfl
theorem rr_un {uop:UnOp} {x:X} {d:Option Nat} {rest:List AOper}:RR cb rd n Q (⟨d,.un uop x,none⟩::rest) ks E df H=RunV (avalE (.un uop x) E H) d rest cb rd n Q ks E df H:=rr_pure rfl
theorem rr_conv {cv:CvK} {x:X} {d:Option Nat} {rest:List AOper}:RR cb rd n Q (⟨d,.conv cv x,none⟩::rest) ks E df H=RunV (avalE (.conv cv x) E H) d rest cb rd n Q ks E df H:=rr_pure rfl
theorem rr_mkif {ty:TypeId} {x:X} {d:Option Nat} {rest:List AOper}:RR cb rd n Q (⟨d,.mkif ty x,none⟩::rest) ks E df H=RunV (avalE (.mkif ty x) E H) d rest cb rd n Q ks E df H:=rr_pure rfl
theorem rr_mkfn {f:FuncId} {xs:List X} {d:Option Nat} {rest:List AOper}:RR cb rd n Q (⟨d,.mkfn f xs,none⟩::rest) ks E df H=RunV (avalE (.mkfn f xs) E H) d rest cb rd n Q ks E df H:=rr_pure rfl
theorem rr_lookup {kk:Nat} {zero:AV} {x:X} {i:X} {ok:Bool} {d:Option Nat} {rest:List AOper}:RR cb rd n Q (⟨d,.lookup kk zero x i ok,none⟩::rest) ks E df H=RunV (avalE (.lookup kk zero x i ok) E H) d rest cb rd n Q ks E df H:=rr_pure rfl
theorem rr_tassert {ty:TypeId} {zero:AV} {x:X} {ok:Bool} {d:Option Nat} {rest:List AOper}:RR cb rd n Q (⟨d,.tassert ty zero x ok,none⟩::rest) ks E df H=RunV (avalE (.tassert ty zero x ok) E H) d rest cb rd n Q ks E df H:=rr_pure rfl
theorem rr_ext {x:X} {j:Nat} {d:Option Nat} {rest:List AOper}:RR cb rd n Q (⟨d,.ext x j,none⟩::rest) ks E df H=RunV (avalE (.ext x j) E H) d rest cb rd n Q ks E df H:=rr_pure rfl
theorem rr_slice {sz:Nat} {x:X} {lo:Option X} {hi:Option X} {d:Option Nat} {rest:List AOper}:RR cb rd n Q (⟨d,.slice sz x lo hi,none⟩::rest) ks E df H=RunV (avalE (.slice sz x lo hi) E H) d rest cb rd n Q ks E df H:=rr_pure rfl
theorem rr_slc3 {sz:Nat} {x:X} {lo:Option X} {hi:Option X} {mx:Option X} {d:Option Nat} {rest:List AOper}:RR cb rd n Q (⟨d,.slc3 sz x lo hi mx,none⟩::rest) ks E df H=RunV (avalE (.slc3 sz x lo hi mx) E H) d rest cb rd n Q ks E df H:=rr_pure rfl
theorem rr_slstr {x:X} {lo:Option X} {hi:Option X} {d:Option Nat} {rest:List AOper}:RR cb rd n Q (⟨d,.slstr x lo hi,none⟩::rest) ks E df H=RunV (avalE (.slstr x lo hi) E H) d rest cb rd n Q ks E df H:=rr_pure rfl
theorem rr_len {k:Nat} {x:X} {d:Option Nat} {rest:List AOper}:RR cb rd n Q (⟨d,.len k x,none⟩::rest) ks E df H=RunV (avalE (.len k x) E H) d rest cb rd n Q ks E df H:=rr_pure rfl
theorem rr_nilck {x:X} {d:Option Nat} {rest:List AOper}:RR cb rd n Q (⟨d,.nilck x,none⟩::rest) ks E df H=RunV (avalE (.nilck x) E H) d rest cb rd n Q ks E df H:=rr_pure rfl
theorem rr_alloc {zs:List AV} {d:Option Nat} {rest:List AOper}:RR cb rd n Q (⟨d,.alloc zs,none⟩::rest) ks E df H=RunX (aactE (.alloc zs) E H) d rest cb rd n Q ks E df:=rr_act rfl
theorem rr_box {x:X} {d:Option Nat} {rest:List AOper}:RR cb rd n Q (⟨d,.box x,none⟩::rest) ks E df H=RunX (aactE (.box x) E H) d rest cb rd n Q ks E df:=rr_act rfl
theorem rr_store {sz:Nat} {a:X} {v:X} {d:Option Nat} {rest:List AOper}:RR cb rd n Q (⟨d,.store sz a v,none⟩::rest) ks E df H=RunX (aactE (.store sz a v) E H) d rest cb rd n Q ks E df:=rr_act rfl
theorem rr_mkmap {d:Option Nat} {rest:List AOper}:RR cb rd n Q (⟨d,.mkmap,none⟩::rest) ks E df H=RunX (aactE (.mkmap) E H) d rest cb rd n Q ks E df:=rr_act rfl
theorem rr_mapup {kk:Nat} {x:X} {k:X} {v:X} {d:Option Nat} {rest:List AOper}:RR cb rd n Q (⟨d,.mapup kk x k v,none⟩::rest) ks E df H=RunX (aactE (.mapup kk x k v) E H) d rest cb rd n Q ks E df:=rr_act rfl
theorem rowOf_sl {sz m:Nat} {cs:List AV} {tk:Tk}:rowOf H (.sl sz m cs tk)= .sl sz m cs tk:=rfl
theorem rr_append {sz:Nat} {bytes:Nat} {x:X} {y:X} {d:Option Nat} {rest:List AOper}:RR cb rd n Q (⟨d,.append sz bytes x y,none⟩::rest) ks E df H=RunX (appV sz bytes (x.evE E) (rowOf H (y.evE E)) H) d rest cb rd n Q ks E df:=rr_act rfl
def appzV (sz bytes:Nat) (zs:List AV) (x n:AV) (H:Heap):Option (Nx×Heap):=
 match x,madeN sz bytes zs n n with
 | .sl sz' k cs (.own g),some m=>appV sz bytes (.sl sz' k cs (.own g)) (.sl sz m (repL m zs) .ro) H
 | .rsl sz' id k,some m=>appR sz bytes (.rsl sz' id k) (.sl sz m (repL m zs) .ro) H
 |_,_=>none
theorem rr_appendr {sz:Nat} {bytes:Nat} {x:X} {y:X} {d:Option Nat} {rest:List AOper}:RR cb rd n Q (⟨d,.appendr sz bytes x y,none⟩::rest) ks E df H=RunX (appR sz bytes (x.evE E) (y.evE E) H) d rest cb rd n Q ks E df:=rr_act rfl
theorem rr_appz {sz:Nat} {bytes:Nat} {zs:List AV} {x:X} {y:X} {d:Option Nat} {rest:List AOper}:RR cb rd n Q (⟨d,.appz sz bytes zs x y,none⟩::rest) ks E df H=RunX (appzV sz bytes zs (x.evE E) (y.evE E) H) d rest cb rd n Q ks E df:=rr_act rfl
theorem rr_bsmem {sz len:Nat} {zs:List AV} {ps:List (Nat×Nat×X)} {d:Option Nat} {rest:List AOper}:RR cb rd n Q (⟨d,.bsmem sz len zs ps,none⟩::rest) ks E df H=RunX (aactE (.bsmem sz len zs ps) E H) d rest cb rd n Q ks E df:=rr_act rfl
theorem rr_mkslicem {sz:Nat} {bytes:Nat} {zs:List AV} {x:X} {y:X} {d:Option Nat} {rest:List AOper}:RR cb rd n Q (⟨d,.mkslicem sz bytes zs x y,none⟩::rest) ks E df H=RunX (aactE (.mkslicem sz bytes zs x y) E H) d rest cb rd n Q ks E df:=rr_act rfl
theorem rr_mkslice {sz:Nat} {bytes:Nat} {zs:List AV} {x:X} {y:X} {d:Option Nat} {rest:List AOper}:RR cb rd n Q (⟨d,.mkslice sz bytes zs x y,none⟩::rest) ks E df H=RunV (avalE (.mkslice sz bytes zs x y) E H) d rest cb rd n Q ks E df H:=rr_pure rfl
theorem rr_appc {sz bytes:Nat} {x y:X} {d:Option Nat} {rest:List AOper}:RR cb rd n Q (⟨d,.appc sz bytes x y,none⟩::rest) ks E df H=RunV (avalE (.appc sz bytes x y) E H) d rest cb rd n Q ks E df H:=rr_pure rfl
theorem rr_boxe {x:X} {d:Option Nat} {rest:List AOper}:RR cb rd n Q (⟨d,.boxe x,none⟩::rest) ks E df H=RunV (avalE (.boxe x) E H) d rest cb rd n Q ks E df H:=rr_pure rfl
theorem rr_chk {lx sx:List X} {d:Option Nat} {rest:List AOper}:RR cb rd n Q (⟨d,.chk lx sx,none⟩::rest) ks E df H=RunV (avalE (.chk lx sx) E H) d rest cb rd n Q ks E df H:=rr_pure rfl
theorem offP_nil {id:Nat}:offP id []=true:=rfl
theorem offP_ptr {id id' o:Nat} {r:List AV} (h:id'≠id):offP id (.ptr id' o::r)=offP id r:=by simp[offP,h]
theorem floatV_nil {ss:List AV}:floatV [] ss=true:=by cases ss<;>rfl
theorem floatV_e {cs r ss:List AV}:floatV (.eptr cs::r) ss=floatV r ss:=by cases ss<;>rfl
theorem floatV_p {id o:Nat} {r ss:List AV} (h:offP id ss=true):floatV (.ptr id o::r) ss=floatV r ss:=by cases ss<;>simp[floatV,h]
theorem rr_mkbnd {f:FuncId} {xs:List X} {d:Option Nat} {rest:List AOper}:RR cb rd n Q (⟨d,.mkbnd f xs,none⟩::rest) ks E df H=RunV (avalE (.mkbnd f xs) E H) d rest cb rd n Q ks E df H:=rr_pure rfl
theorem rr_slarr {n0 sz:Nat} {x:X} {lo hi:Option X} {d:Option Nat} {rest:List AOper}:RR cb rd n Q (⟨d,.slarr n0 sz x lo hi,none⟩::rest) ks E df H=RunV (avalE (.slarr n0 sz x lo hi) E H) d rest cb rd n Q ks E df H:=rr_pure rfl
theorem rr_s2arr {n0:Nat} {x:X} {d:Option Nat} {rest:List AOper}:RR cb rd n Q (⟨d,.s2arr n0 x,none⟩::rest) ks E df H=RunV (avalE (.s2arr n0 x) E H) d rest cb rd n Q ks E df H:=rr_pure rfl
theorem rr_clr {sz:Nat} {zs:List AV} {x:X} {d:Option Nat} {rest:List AOper}:RR cb rd n Q (⟨d,.clr sz zs x,none⟩::rest) ks E df H=RunX (aactE (.clr sz zs x) E H) d rest cb rd n Q ks E df:=rr_act rfl
theorem rr_cpy {sz:Nat} {x y:X} {d:Option Nat} {rest:List AOper}:RR cb rd n Q (⟨d,.cpy sz x y,none⟩::rest) ks E df H=RunX (aactE (.cpy sz x y) E H) d rest cb rd n Q ks E df:=rr_act rfl
theorem rr_cntb {x y:X} {d:Option Nat} {rest:List AOper}:RR cb rd n Q (⟨d,.cntb x y,none⟩::rest) ks E df H=RunV (avalE (.cntb x y) E H) d rest cb rd n Q ks E df H:=rr_pure rfl
theorem rr_idxb {x y:X} {d:Option Nat} {rest:List AOper}:RR cb rd n Q (⟨d,.idxb x y,none⟩::rest) ks E df H=RunV (avalE (.idxb x y) E H) d rest cb rd n Q ks E df H:=rr_pure rfl
theorem rr_appendm {sz:Nat} {bytes:Nat} {x:X} {y:X} {d:Option Nat} {rest:List AOper}:RR cb rd n Q (⟨d,.appendm sz bytes x y,none⟩::rest) ks E df H=RunX (aactE (.appendm sz bytes x y) E H) d rest cb rd n Q ks E df:=rr_act rfl
theorem rr_callf {f:FuncId} {xs:List X} {d:Option Nat} {rest:List AOper}:RR cb rd n Q (⟨d,.callf f xs,none⟩::rest) ks E df H=RunX (aactE (.callf f xs) E H) d rest cb rd n Q ks E df:=rr_act rfl
theorem rr_callm {rw:Bool} {f:FuncId} {xs:List X} {d:Option Nat} {rest:List AOper}:RR cb rd n Q (⟨d,.callm rw f xs,none⟩::rest) ks E df H=RunX (aactE (.callm rw f xs) E H) d rest cb rd n Q ks E df:=rr_act rfl
theorem rr_callv {x:X} {xs:List X} {d:Option Nat} {rest:List AOper}:RR cb rd n Q (⟨d,.callv x xs,none⟩::rest) ks E df H=RunX (aactE (.callv x xs) E H) d rest cb rd n Q ks E df:=rr_act rfl
theorem rr_recov {d:Option Nat} {rest:List AOper}:RR cb rd n Q (⟨d,.recov,none⟩::rest) ks E df H=RunX (aactE (.recov) E H) d rest cb rd n Q ks E df:=rr_act rfl
theorem rr_panic {x:X} {d:Option Nat} {rest:List AOper}:RR cb rd n Q (⟨d,.panic x,none⟩::rest) ks E df H=RunX (aactE (.panic x) E H) d rest cb rd n Q ks E df:=rr_act rfl
theorem rr_dfr {x:X} {xs:List X} {d:Option Nat} {rest:List AOper}:RR cb rd n Q (⟨d,.dfr x xs,none⟩::rest) ks E df H=RunX (aactE (.dfr x xs) E H) d rest cb rd n Q ks E df:=rr_act rfl
def RunG (v:AV) (b:Bool) (d:Option Nat) (op:AOp) (rest:List AOper) (cb:CB) (rd:Option Nat) (n:Nat) (Q:KP) (ks:List Kt) (E:Env) (df:List ADf) (H:Heap):Prop:=
 match v with
 | .bool b'=>if b'=b then RR cb rd n Q (⟨d,op,none⟩::rest) ks E df H else RR cb rd n Q rest ks (updD E d (.tup [])) df H
 |_=>RR cb rd n Q rest ks (updD E d (.tup [])) df H
theorem rr_guard {t:Nat} {b:Bool} {d:Option Nat} {op:AOp} {rest:List AOper}:RR cb rd n Q (⟨d,op,some (t,b)⟩::rest) ks E df H=RunG (E t) b d op rest cb rd n Q ks E df H:=by
 show wpr cb _ _ E df H=_
 cases ht:E t with
 | bool b'=>
   by_cases hb:b'=b
   . show _=(if b'=b then RR cb rd n Q (⟨d,op,none⟩::rest) ks E df H else _)
     rw[if_pos hb]
     show _=wpr cb _ _ E df H
     rw[wpr,wpr_cons]
     simp only[wantedE,ht,hb,beq_self_eq_true,if_true]
   . show _=(if b'=b then _ else RR cb rd n Q rest ks (updD E d (.tup [])) df H)
     rw[if_neg hb,wpr]
     simp only[wantedE,ht,beq_eq_false_iff_ne.2 hb,Bool.false_eq_true,if_false]
     rfl
 | _=>
   rw[wpr]
   simp only[wantedE,ht,Bool.false_eq_true,if_false]
   rfl
theorem runG_tt {d:Option Nat} {op:AOp} {rest:List AOper}:RunG (.bool true) true d op rest cb rd n Q ks E df H=RR cb rd n Q (⟨d,op,none⟩::rest) ks E df H:=(rfl)
theorem runG_ff {d:Option Nat} {op:AOp} {rest:List AOper}:RunG (.bool false) false d op rest cb rd n Q ks E df H=RR cb rd n Q (⟨d,op,none⟩::rest) ks E df H:=(rfl)
theorem runG_tf {d:Option Nat} {op:AOp} {rest:List AOper}:RunG (.bool true) false d op rest cb rd n Q ks E df H=RR cb rd n Q rest ks (updD E d (.tup [])) df H:=(rfl)
theorem runG_ft {d:Option Nat} {op:AOp} {rest:List AOper}:RunG (.bool false) true d op rest cb rd n Q ks E df H=RR cb rd n Q rest ks (updD E d (.tup [])) df H:=(rfl)
section
variable {p:Prop} [Decidable p]
theorem runG_dtt {d:Option Nat} {op:AOp} {rest:List AOper} (h:p):RunG (.bool (decide p)) true d op rest cb rd n Q ks E df H=RR cb rd n Q (⟨d,op,none⟩::rest) ks E df H:=by rw[decide_eq_true h];rfl
theorem runG_dff {d:Option Nat} {op:AOp} {rest:List AOper} (h:¬p):RunG (.bool (decide p)) false d op rest cb rd n Q ks E df H=RR cb rd n Q (⟨d,op,none⟩::rest) ks E df H:=by rw[decide_eq_false h];rfl
theorem runG_dtf {d:Option Nat} {op:AOp} {rest:List AOper} (h:p):RunG (.bool (decide p)) false d op rest cb rd n Q ks E df H=RR cb rd n Q rest ks (updD E d (.tup [])) df H:=by rw[decide_eq_true h];rfl
theorem runG_dft {d:Option Nat} {op:AOp} {rest:List AOper} (h:¬p):RunG (.bool (decide p)) true d op rest cb rd n Q ks E df H=RR cb rd n Q rest ks (updD E d (.tup [])) df H:=by rw[decide_eq_false h];rfl
end
def RP (cb:CB) (rd:Option Nat) (n:Nat) (Q:KP) (pre tail:List AOper) (e:List AObj) (ks:List Kt) (E:Env) (df:List ADf) (H:Heap):Prop:=
 wpre cb H (fun E' e=>wpr cb (Ret cb rd n Q ks) tail E' df (H++e)) pre E e
theorem ret_drawn {pre tail:List AOper}:Ret cb rd n Q (.code (.drawn pre tail)::ks) .normal E df H=RP cb rd n Q pre tail [] ks E df H:=(rfl)
theorem hpush_nil (H:Heap):hpush H []=H:=List.append_nil H
theorem hpush_cons (H:Heap) (g:AObj) (e:List AObj):hpush H (g::e)=H++(g::e):=(rfl)
theorem rp_nil {tail:List AOper} {e:List AObj}:RP cb rd n Q [] tail e ks E df H=RR cb rd n Q tail ks E df (hpush H e):=(rfl)
def RunPV (o:Option (AV×Option AObj)) (q:Option Nat) (d:Option Nat) (rest tail:List AOper) (e:List AObj) (cb:CB) (rd:Option Nat) (n:Nat) (Q:KP) (ks:List Kt) (E:Env) (df:List ADf) (H:Heap):Prop:=
 match o with
 |some (v,k)=>RP cb rd n Q rest tail (killE H.length q (e++k.toList)) ks (updD E d v) df H
 |none=>False
theorem rp_cons {o:AOper} {rest tail:List AOper} {e:List AObj}:RP cb rd n Q (o::rest) tail e ks E df H=RunPV (ap1E cb H (hpush H e) o E (H.length+e.length)) (killOE o E) o.dst rest tail e cb rd n Q ks E df H:=by
 show wpre cb H _ (o::rest) E e=_
 rw[wpre]
 cases ap1E cb H (hpush H e) o E (H.length+e.length)with
 |none=>rfl
 |some q=>rfl
theorem killO_eq {d:Option Nat} {op:AOp} {g:Option (Nat×Bool)}:killOE ⟨d,op,g⟩ E=(match op with
 | .appg _ _ _ x _=>if wantedE E g then(match x.evE E with
   | .sl _ _ _ (.own g0)=>some g0
   |_=>none)else none
 |_=>none):=(rfl)
theorem runPV_plain {v:AV} {d:Option Nat} {rest tail:List AOper} {e:List AObj}:RunPV (some (v,none)) none d rest tail e cb rd n Q ks E df H=RP cb rd n Q rest tail e ks (updD E d v) df H:=by
 show RP cb rd n Q rest tail (e++[]) ks _ df H=_
 rw[List.append_nil]
theorem runPV_fresh {v:AV} {k:AObj} {d:Option Nat} {rest tail:List AOper} {e:List AObj}:RunPV (some (v,some k)) none d rest tail e cb rd n Q ks E df H=RP cb rd n Q rest tail (e++[k]) ks (updD E d v) df H:=(rfl)
theorem runPV_kill {v:AV} {k:AObj} {g0:Nat} {d:Option Nat} {rest tail:List AOper} {e:List AObj}:RunPV (some (v,some k)) (some g0) d rest tail e cb rd n Q ks E df H=RP cb rd n Q rest tail ((e++[k]).set (g0-H.length) .dead) ks (updD E d v) df H:=(rfl)
def prW (o:Option PR) (g:Nat):Option (AV×Option AObj):=
 match o with
 |some (.fresh sz n cs)=>if cs.all (·.scal)&&cs.length==n*sz then some (.msl sz g 0 n,some (.cells cs))else none
 |_=>none
theorem ap_callw {G:Heap} {f:FuncId} {args:List X} {d:Option Nat} {g:Nat}:ap1E cb H G ⟨d,.callw f args,none⟩ E g=prW (pcx cb f (args.map (·.evE E)) H) g:=(rfl)
theorem ap_boxd {G:Heap} {x:X} {d:Option Nat} {g:Nat}:ap1E cb H G ⟨d,.boxd x,none⟩ E g=if allOne (x.evE E).flat then some (.ptr g 0,some (.cells (x.evE E).flat))else none:=(rfl)
theorem ap_appf {G:Heap} {sz bytes:Nat} {x y:X} {d:Option Nat} {g:Nat}:ap1E cb H G ⟨d,.appf sz bytes x y,none⟩ E g=appF sz bytes (x.evE E) (y.evE E) g:=(rfl)
theorem ap_appg {G:Heap} {sz bytes:Nat} {zs:List AV} {x y:X} {d:Option Nat} {g:Nat}:ap1E cb H G ⟨d,.appg sz bytes zs x y,none⟩ E g=appG H.length sz bytes zs (x.evE E) (y.evE E) G g:=(rfl)
theorem wantedE_none:wantedE E none=true:=(rfl)
def avalP (o:Option AV):Option (AV×Option AObj):=
 match o with
 |some v=>some (v,none)
 |none=>none
theorem avalP_some {v:AV}:avalP (some v)=some (v,none):=(rfl)
def prP (o:Option PR) (g:Nat):Option (AV×Option AObj):=
 match o with
 |some (.plain v)=>some (v,none)
 |some (.fresh sz n cs)=>some (.sl sz n cs (.own g),some (.tok sz))
 |some (.fmap es)=>some (.mp g,some (.map es))
 |_=>none
theorem prP_fmap {es:List (AV×AV)} {g:Nat}:prP (some (.fmap es)) g=some (.mp g,some (.map es)):=(rfl)
theorem prP_plain {v:AV} {g:Nat}:prP (some (.plain v)) g=some (v,none):=(rfl)
theorem prP_fresh {sz n g:Nat} {cs:List AV}:prP (some (.fresh sz n cs)) g=some (.sl sz n cs (.own g),some (.tok sz)):=(rfl)
def AOp.noLook:AOp->Bool
 | .lookup .. =>false
 |_=>true
def lookP (o q:Option AV):Option (AV×Option AObj):=
 match o with
 |some v=>some (v,none)
 |none=>avalP q
theorem lookP_some {v:AV} {q:Option AV}:lookP (some v) q=some (v,none):=(rfl)
theorem lookP_none {q:Option AV}:lookP none q=avalP q:=(rfl)
theorem ap1E_pure {G:Heap} {d:Option Nat} {op:AOp} {g:Nat} (h:op.pure=true) (hl:op.noLook=true:=by rfl):ap1E cb H G ⟨d,op,none⟩ E g=avalP (avalE op E H):=by
 simp only[ap1E,wantedE,if_true]
 cases hv:avalE op E H with
 |some v=>rfl
 |none=>cases op<;>first|rfl|(cases h;done)|(cases hl;done)
theorem ap_mv {G:Heap} {x:X} {d:Option Nat} {g:Nat}:ap1E cb H G ⟨d,.mv x,none⟩ E g=avalP (avalE (.mv x) E H):=ap1E_pure rfl
theorem ap_pick {G:Heap} {c:X} {a:X} {b:X} {d:Option Nat} {g:Nat}:ap1E cb H G ⟨d,.pick c a b,none⟩ E g=avalP (avalE (.pick c a b) E H):=ap1E_pure rfl
theorem ap_build {G:Heap} {zs:List AV} {ps:List (Nat×Nat×X)} {d:Option Nat} {g:Nat}:ap1E cb H G ⟨d,.build zs ps,none⟩ E g=avalP (avalE (.build zs ps) E H):=ap1E_pure rfl
theorem ap_bsfull {G:Heap} {sz:Nat} {len:Nat} {zs:List AV} {ps:List (Nat×Nat×X)} {d:Option Nat} {g:Nat}:ap1E cb H G ⟨d,.bsfull sz len zs ps,none⟩ E g=avalP (avalE (.bsfull sz len zs ps) E H):=ap1E_pure rfl
theorem ap_mm {G:Heap} {mx:Bool} {x:X} {y:X} {d:Option Nat} {g:Nat}:ap1E cb H G ⟨d,.mm mx x y,none⟩ E g=avalP (avalE (.mm mx x y) E H):=ap1E_pure rfl
theorem ap_bslice {G:Heap} {sz:Nat} {len:Nat} {zs:List AV} {ps:List (Nat×Nat×X)} {d:Option Nat} {g:Nat}:ap1E cb H G ⟨d,.bslice sz len zs ps,none⟩ E g=avalP (avalE (.bslice sz len zs ps) E H):=ap1E_pure rfl
theorem ap_load {G:Heap} {sz:Nat} {ag:Bool} {x:X} {d:Option Nat} {g:Nat}:ap1E cb H G ⟨d,.load sz ag x,none⟩ E g=avalP (avalE (.load sz ag x) E H):=ap1E_pure rfl
theorem ap_fld {G:Heap} {off:Nat} {x:X} {d:Option Nat} {g:Nat}:ap1E cb H G ⟨d,.fld off x,none⟩ E g=avalP (avalE (.fld off x) E H):=ap1E_pure rfl
theorem ap_part {G:Heap} {off:Nat} {sz:Nat} {ag:Bool} {x:X} {d:Option Nat} {g:Nat}:ap1E cb H G ⟨d,.part off sz ag x,none⟩ E g=avalP (avalE (.part off sz ag x) E H):=ap1E_pure rfl
theorem ap_ixa {G:Heap} {sz:Nat} {x:X} {i:X} {d:Option Nat} {g:Nat}:ap1E cb H G ⟨d,.ixa sz x i,none⟩ E g=avalP (avalE (.ixa sz x i) E H):=ap1E_pure rfl
theorem ap_ixarr {G:Heap} {n0:Nat} {sz:Nat} {x:X} {i:X} {d:Option Nat} {g:Nat}:ap1E cb H G ⟨d,.ixarr n0 sz x i,none⟩ E g=avalP (avalE (.ixarr n0 sz x i) E H):=ap1E_pure rfl
theorem ap_ixv {G:Heap} {n0:Nat} {sz:Nat} {ag:Bool} {x:X} {i:X} {d:Option Nat} {g:Nat}:ap1E cb H G ⟨d,.ixv n0 sz ag x i,none⟩ E g=avalP (avalE (.ixv n0 sz ag x i) E H):=ap1E_pure rfl
theorem ap_ixs {G:Heap} {x:X} {i:X} {d:Option Nat} {g:Nat}:ap1E cb H G ⟨d,.ixs x i,none⟩ E g=avalP (avalE (.ixs x i) E H):=ap1E_pure rfl
theorem ap_bin {G:Heap} {op:BinOp} {ek:EqK} {x:X} {y:X} {d:Option Nat} {g:Nat}:ap1E cb H G ⟨d,.bin op ek x y,none⟩ E g=avalP (avalE (.bin op ek x y) E H):=ap1E_pure rfl
theorem ap_un {G:Heap} {uop:UnOp} {x:X} {d:Option Nat} {g:Nat}:ap1E cb H G ⟨d,.un uop x,none⟩ E g=avalP (avalE (.un uop x) E H):=ap1E_pure rfl
theorem ap_conv {G:Heap} {cv:CvK} {x:X} {d:Option Nat} {g:Nat}:ap1E cb H G ⟨d,.conv cv x,none⟩ E g=avalP (avalE (.conv cv x) E H):=ap1E_pure rfl
theorem ap_mkif {G:Heap} {ty:TypeId} {x:X} {d:Option Nat} {g:Nat}:ap1E cb H G ⟨d,.mkif ty x,none⟩ E g=avalP (avalE (.mkif ty x) E H):=ap1E_pure rfl
theorem ap_mkfn {G:Heap} {f:FuncId} {xs:List X} {d:Option Nat} {g:Nat}:ap1E cb H G ⟨d,.mkfn f xs,none⟩ E g=avalP (avalE (.mkfn f xs) E H):=ap1E_pure rfl
theorem ap_lookup {G:Heap} {kk:Nat} {zero:AV} {j:Nat} {i:X} {ok:Bool} {d:Option Nat} {g:Nat}:ap1E cb H G ⟨d,.lookup kk zero (.t j) i ok,none⟩ E g=lookP (avalE (.lookup kk zero (.t j) i ok) E H) (avalE (.lookup kk zero (.t j) i ok) E G):=by
 simp only[ap1E,wantedE,if_true]
 cases avalE (.lookup kk zero (.t j) i ok) E H with
 |some v=>rfl
 |none=>cases avalE (.lookup kk zero (.t j) i ok) E G<;>rfl
theorem ap_tassert {G:Heap} {ty:TypeId} {zero:AV} {x:X} {ok:Bool} {d:Option Nat} {g:Nat}:ap1E cb H G ⟨d,.tassert ty zero x ok,none⟩ E g=avalP (avalE (.tassert ty zero x ok) E H):=ap1E_pure rfl
theorem ap_ext {G:Heap} {x:X} {j:Nat} {d:Option Nat} {g:Nat}:ap1E cb H G ⟨d,.ext x j,none⟩ E g=avalP (avalE (.ext x j) E H):=ap1E_pure rfl
theorem ap_slice {G:Heap} {sz:Nat} {x:X} {lo:Option X} {hi:Option X} {d:Option Nat} {g:Nat}:ap1E cb H G ⟨d,.slice sz x lo hi,none⟩ E g=avalP (avalE (.slice sz x lo hi) E H):=ap1E_pure rfl
theorem ap_slc3 {G:Heap} {sz:Nat} {x:X} {lo:Option X} {hi:Option X} {mx:Option X} {d:Option Nat} {g:Nat}:ap1E cb H G ⟨d,.slc3 sz x lo hi mx,none⟩ E g=avalP (avalE (.slc3 sz x lo hi mx) E H):=ap1E_pure rfl
theorem ap_slstr {G:Heap} {x:X} {lo:Option X} {hi:Option X} {d:Option Nat} {g:Nat}:ap1E cb H G ⟨d,.slstr x lo hi,none⟩ E g=avalP (avalE (.slstr x lo hi) E H):=ap1E_pure rfl
theorem ap_len {G:Heap} {k:Nat} {x:X} {d:Option Nat} {g:Nat}:ap1E cb H G ⟨d,.len k x,none⟩ E g=avalP (avalE (.len k x) E H):=ap1E_pure rfl
theorem ap_nilck {G:Heap} {x:X} {d:Option Nat} {g:Nat}:ap1E cb H G ⟨d,.nilck x,none⟩ E g=avalP (avalE (.nilck x) E H):=ap1E_pure rfl
theorem ap_mkslice {G:Heap} {sz:Nat} {bytes:Nat} {zs:List AV} {x:X} {y:X} {d:Option Nat} {g:Nat}:ap1E cb H G ⟨d,.mkslice sz bytes zs x y,none⟩ E g=avalP (avalE (.mkslice sz bytes zs x y) E H):=ap1E_pure rfl
theorem ap_appc {G:Heap} {sz bytes:Nat} {x y:X} {d:Option Nat} {g:Nat}:ap1E cb H G ⟨d,.appc sz bytes x y,none⟩ E g=avalP (avalE (.appc sz bytes x y) E H):=ap1E_pure rfl
theorem ap_boxe {G:Heap} {x:X} {d:Option Nat} {g:Nat}:ap1E cb H G ⟨d,.boxe x,none⟩ E g=avalP (avalE (.boxe x) E H):=ap1E_pure rfl
theorem ap_mkbnd {G:Heap} {f:FuncId} {xs:List X} {d:Option Nat} {g:Nat}:ap1E cb H G ⟨d,.mkbnd f xs,none⟩ E g=avalP (avalE (.mkbnd f xs) E H):=ap1E_pure rfl
theorem ap_slarr {G:Heap} {n0 sz:Nat} {x:X} {lo hi:Option X} {d:Option Nat} {g:Nat}:ap1E cb H G ⟨d,.slarr n0 sz x lo hi,none⟩ E g=avalP (avalE (.slarr n0 sz x lo hi) E H):=ap1E_pure rfl
theorem ap_s2arr {G:Heap} {n0:Nat} {x:X} {d:Option Nat} {g:Nat}:ap1E cb H G ⟨d,.s2arr n0 x,none⟩ E g=avalP (avalE (.s2arr n0 x) E H):=ap1E_pure rfl
theorem ap_cntb {G:Heap} {x y:X} {d:Option Nat} {g:Nat}:ap1E cb H G ⟨d,.cntb x y,none⟩ E g=avalP (avalE (.cntb x y) E H):=ap1E_pure rfl
theorem ap_idxb {G:Heap} {x y:X} {d:Option Nat} {g:Nat}:ap1E cb H G ⟨d,.idxb x y,none⟩ E g=avalP (avalE (.idxb x y) E H):=ap1E_pure rfl
def prV (cb:CB) (H:Heap) (o:Option (FuncId×List AV)) (g:Nat):Option (AV×Option AObj):=
 match o with
 |some (f,as)=>prP (pcx cb f as H) g
 |none=>none
theorem prV_some {f:FuncId} {as:List AV} {g:Nat}:prV cb H (some (f,as)) g=prP (pcx cb f as H) g:=(rfl)
theorem callee_fn {f:FuncId} {caps as:List AV}:calleeA (.fn f caps) as=some (f,as++caps):=(rfl)
theorem callee_bnd {f:FuncId} {fs as:List AV}:calleeA (.bnd f fs) as=some (f,fs++as):=(rfl)
theorem ap_alloc {G:Heap} {zs:List AV} {d:Option Nat} {g:Nat}:ap1E cb H G ⟨d,.alloc zs,none⟩ E g=some (.ptr g 0,some (.cells zs)):=by
 simp only[ap1E,wantedE,if_true,avalE]
theorem ap1E_callv {G:Heap} {d:Option Nat} {x:X} {args:List X} {g:Nat}:ap1E cb H G ⟨d,.callv x args,none⟩ E g=prV cb H (calleeA (x.evE E) (args.map (·.evE E))) g:=by
 simp only[ap1E,wantedE,if_true,avalE]
 cases hc:calleeA (x.evE E) (args.map (·.evE E))with
 |none=>rfl
 | some q=>
   obtain⟨f,as⟩:=q
   simp only[prV]
   cases hv:pcx cb f as H with
   |none=>rfl
   |some q=>cases q<;>rfl
theorem ap1E_call {G:Heap} {d:Option Nat} {f:FuncId} {args:List X} {g:Nat}:ap1E cb H G ⟨d,.callf f args,none⟩ E g=prP (pcx cb f (args.map (·.evE E)) H) g:=by
 simp only[ap1E,wantedE,if_true,avalE]
 cases hv:pcx cb f (args.map (·.evE E)) H with
 |none=>rfl
 |some q=>cases q<;>rfl
def GP (v:AV) (b:Bool) (o:Option (AV×Option AObj)):Option (AV×Option AObj):=
 match v with
 | .bool b'=>if b'=b then o else some (.tup [],none)
 |_=>some (.tup [],none)
theorem gp_tt {o:Option (AV×Option AObj)}:GP (.bool true) true o=o:=(rfl)
theorem gp_ff {o:Option (AV×Option AObj)}:GP (.bool false) false o=o:=(rfl)
theorem gp_tf {o:Option (AV×Option AObj)}:GP (.bool true) false o=some (.tup [],none):=(rfl)
theorem gp_ft {o:Option (AV×Option AObj)}:GP (.bool false) true o=some (.tup [],none):=(rfl)
theorem gp_dtt {p:Prop} [Decidable p] {o:Option (AV×Option AObj)} (h:p):GP (.bool (decide p)) true o=o:=by rw[decide_eq_true h];rfl
theorem gp_dff {p:Prop} [Decidable p] {o:Option (AV×Option AObj)} (h:¬p):GP (.bool (decide p)) false o=o:=by rw[decide_eq_false h];rfl
theorem gp_dtf {p:Prop} [Decidable p] {o:Option (AV×Option AObj)} (h:p):GP (.bool (decide p)) false o=some (.tup [],none):=by rw[decide_eq_true h];rfl
theorem gp_dft {p:Prop} [Decidable p] {o:Option (AV×Option AObj)} (h:¬p):GP (.bool (decide p)) true o=some (.tup [],none):=by rw[decide_eq_false h];rfl
theorem gp_if {v:AV} {b:Bool} {o:Option (AV×Option AObj)}:(if(match v with| .bool b'=>b'==b|_=>false)=true then o else some (.tup [],none))=GP v b o:=by
 cases v with
 | bool b'=>
   by_cases hb:b'=b
   . subst hb;simp[GP]
   . simp[GP,hb]
 |_=>rfl
theorem ap1E_guard {G:Heap} {d:Option Nat} {op:AOp} {t:Nat} {b:Bool} {g:Nat}:ap1E cb H G ⟨d,op,some (t,b)⟩ E g=GP (E t) b (ap1E cb H G ⟨d,op,none⟩ E g):=by
 rw[<-gp_if]
 rfl
def prO (o:Option PR) (H:Heap):Option (Out×Heap):=
 match o with
 |some (.plain v)=>some (.ret v,H)
 |some (.fresh sz n cs)=>some (.ret (.sl sz n cs (.own H.length)),H++[.tok sz])
 |some (.fmap es)=>some (.ret (.mp H.length),H++[.map es])
 |some (.pan c)=>some (.pan c,H)
 |some (.fval _)=>none
 |none=>none
theorem prO_fmap {es:List (AV×AV)}:prO (some (.fmap es)) H=some (.ret (.mp H.length),H++[.map es]):=(rfl)
theorem prO_plain {v:AV}:prO (some (.plain v)) H=some (.ret v,H):=(rfl)
theorem prO_fresh {sz n:Nat} {cs:List AV}:prO (some (.fresh sz n cs)) H=some (.ret (.sl sz n cs (.own H.length)),H++[.tok sz]):=(rfl)
theorem prO_pan {c:List (AV×Bool)}:prO (some (.pan c)) H=some (.pan c,H):=(rfl)
theorem pcx_pc {f:FuncId} {args:List AV} (hl:cb.lent f=false):pcx cb f args H=cb.pc f args:=by rw[pcx,if_neg (by simp[hl])]
end rules
theorem pcx_N {cb:CB} {H:Heap} {f:FuncId} {args:List AV} {p:PR} (hl:cb.lent f=false) (h:cb.pc f args=some p):pcx cb f args H=some p:=by rw[pcx_pc hl];exact h
theorem pcx_none {cb:CB} {H:Heap} {f:FuncId} {args:List AV} (hl:cb.lent f=false) (h:cb.pc f args=none):pcx cb f args H=none:=by rw[pcx_pc hl];exact h
def resE (E:Env) (H:Heap):List ARes->Option (List AV)
 |[]=>some []
 | .tmp t::r=>(resE E H r).map (E t:: ·)
 | .cell t sz ag::r=>
   match E t with
   | .ptr id off=>
     match H[id]? with
     | some (.cells cs)=>
       match readC cs off sz ag,resE E H r with
       |some v,some vs=>some (v::vs)
       |_,_=>none
     |_=>none
   |_=>none
theorem res_EV (tm:List AV) (H:Heap):∀rs,resA tm H rs=resE (EV tm) H rs
 |[]=>rfl
 | .tmp t::r=>by simp only[resA,resE,EV,res_EV tm H r]
 | .cell t sz ag::r=>by simp only[resA,resE,EV,res_EV tm H r]<;>rfl
def exMode:Ex->Option Mode
 | .normal=>some .returning
 | .ret=>some .returning
 | .panic c=>some (.panicking c)
 |_=>none
def Ends (tab:FuncId->Option AFun) (res:List ARes) (P:Out->Heap->Prop):KP:=fun e E df H=>
 match exMode e with
 | some u=>
   match leaveA tab (cbL tab) df u H with
   | some (.returning,H2)=>
     match resE E H2 res with
     |some vs=>P (.ret (tupled vs)) H2
     |none=>False
   |some (.panicking c,H2)=>P (.pan c) H2
   |none=>False
 |none=>False
theorem ends_ret {tab:FuncId->Option AFun} {res:List ARes} {P:Out->Heap->Prop} {E:Env} {H:Heap}:Ends tab res P .ret E [] H=match resE E H res with
   |some vs=>P (.ret (tupled vs)) H
   |none=>False:=rfl
theorem ends_normal {tab:FuncId->Option AFun} {res:List ARes} {P:Out->Heap->Prop} {E:Env} {H:Heap}:Ends tab res P .normal E [] H=match resE E H res with
   |some vs=>P (.ret (tupled vs)) H
   |none=>False:=rfl
theorem ends_left_ret {tab:FuncId->Option AFun} {res:List ARes} {P:Out->Heap->Prop} {E:Env} {H H2:Heap} {df:List ADf} (h:leaveA tab (cbL tab) df .returning H=some (.returning,H2)):Ends tab res P .ret E df H=Ends tab res P .ret E [] H2:=by
 simp only[Ends,exMode,h,leaveA]
theorem ends_mark {tab:FuncId->Option AFun} {res:List ARes} {P:Out->Heap->Prop} {E:Env} {H:Heap} {k:Nat} (h:H[k]? =some .defd):Ends tab res P .ret E [.mark k] H=Ends tab res P .ret E [] (H.set k .dead):=by
 simp only[Ends,exMode,leaveA,h]
theorem ends_panic {tab:FuncId->Option AFun} {res:List ARes} {P:Out->Heap->Prop} {E:Env} {H:Heap} {c:List (AV×Bool)}:Ends tab res P (.panic c) E [] H=P (.pan c) H:=(rfl)
theorem body_wp {tab:FuncId->Option AFun} {fi:AFun} {args:List AV} {H:Heap} {P:Out->Heap->Prop} (hl:args.length<=fi.np) (hf:fi.body.fits fi.np=true)
   (h:Ret (cbL tab) none fi.np (Ends tab fi.res P) [.code fi.body] .normal (EV (fr0 fi.np args).tm) [] H):∃o H',bodyA tab (cbL tab) fi args H=some (o,H')/\P o H':=by
 have hlen:(fr0 fi.np args).tm.length=fi.np:=by
   simp only[fr0,List.length_append,List.length_replicate]
   omega
 obtain⟨e,fr,H',h1,E',h2,h3⟩:=wpc_ok fi.body (Ret (cbL tab) none fi.np (Ends tab fi.res P) []) _ [] H _ hf (.inl rfl) ⟨hlen,rfl⟩ h
 rw[bodyA]
 have h1':acode (cbL tab) none fi.body (fr0 fi.np args) H=some (e,fr,H'):=h1
 rw[h1']
 have h3:Ends tab fi.res P e E' fr.df H':=h3
 simp only[Ends]at h3
 have fin:∀u,exMode e=some u->∃o H'',(match leaveA tab (cbL tab) fr.df u H' with
     |some (.returning,H2)=>(resA fr.tm H2 fi.res).map fun vs=>(.ret (tupled vs),H2)
     |some (.panicking c,H2)=>some (.pan c,H2)
     |none=>none)=some (o,H'')/\P o H'':=by
   intro u hu
   rw[hu]at h3
   simp only at h3
   split at h3
   . rename_i H2 hl2
     (try rw[hl2])
     (try simp only)
     split at h3
     . rename_i vs hvs
       rw[res_EV,h2.2,hvs]
       exact⟨_,_,rfl,h3⟩
     . exact h3.elim
   . rename_i c H2 hl2
     (try rw[hl2])
     exact⟨_,_,rfl,h3⟩
   . exact h3.elim
 cases e with
 |normal=>exact fin _ rfl
 |ret=>exact fin _ rfl
 |panic c=>exact fin _ rfl
 |exit j=>exact h3.elim
 |goto j=>exact h3.elim
def argE (args:List AV):Env:=fun i=>args.getD i (.tup [])
theorem argE_zero (a:AV) (r:List AV):argE (a::r) 0=a:=(rfl)
theorem argE_succ (a:AV) (r:List AV) (i:Nat):argE (a::r) (i+1)=argE r i:=(rfl)
theorem argE_nil (i:Nat):argE [] i= .tup []:=(rfl)
theorem EV_fr0 (n:Nat) (args:List AV):EV (fr0 n args).tm=argE args:=by
 funext i
 simp only[EV,fr0,argE,List.getD]
 by_cases h:i<args.length
 . rw[List.getElem?_append_left h]
 . rw[List.getElem?_append_right (by omega),List.getElem?_eq_none (l:=args) (by omega),List.getElem?_replicate]
   split<;>rfl
theorem outM_1 {m:Nat} {r:Option (Out×Heap)} (h:m≠5/\m≠6):outM m r=purify r:=by simp[outM,h.1,h.2]
theorem outM_6 {m:Nat} {r:Option (Out×Heap)} (h:m=6):outM m r=purD r:=by simp[outM,h]
theorem pc_wp {tab:FuncId->Option AFun} {f:FuncId} {fi:AFun} {args:List AV} {r:PR} (ht:tab f=some fi) (hon:pcOn fi args=true) (hl:args.length<=fi.np) (hf:fi.body.fits fi.np=true)
   (h:Ret (cbL tab) none fi.np (Ends tab fi.res fun o H=>purify (some (o,H))=some r) [.code fi.body] .normal (argE (args.map lend)) [] []) (hcon:fi.con=none:=by rfl) (hm:fi.mode≠5/\fi.mode≠6:=by decide):(cbL tab).pc f args=some r:=by
 rw[<-EV_fr0 fi.np]at h
 apply pc_of
 rw[pcA,ht]
 simp only[hcon,hon,if_true]
 obtain⟨o,H',h1,h2⟩:=body_wp (by rw[List.length_map];exact hl) hf h
 rw[h1,outM_1 hm,h2]
theorem pc_wp6 {tab:FuncId->Option AFun} {f:FuncId} {fi:AFun} {args:List AV} {r:PR} (ht:tab f=some fi) (hon:pcOn fi args=true) (hl:args.length<=fi.np) (hf:fi.body.fits fi.np=true)
   (h:Ret (cbL tab) none fi.np (Ends tab fi.res fun o H=>purD (some (o,H))=some r) [.code fi.body] .normal (argE (args.map lend)) [] []) (hcon:fi.con=none:=by rfl) (hm:fi.mode=6:=by rfl):(cbL tab).pc f args=some r:=by
 rw[<-EV_fr0 fi.np]at h
 apply pc_of
 rw[pcA,ht]
 simp only[hcon,hon,if_true]
 obtain⟨o,H',h1,h2⟩:=body_wp (by rw[List.length_map];exact hl) hf h
 rw[h1,outM_6 hm,h2]
theorem ic_wp {tab:FuncId->Option AFun} {f:FuncId} {fi:AFun} {args:List AV} {H:Heap} {P:Out->Heap->Prop} (ht:tab f=some fi) (hon:pcOn fi args=false) (hl:args.length<=fi.np) (hf:fi.body.fits fi.np=true)
   (h:Ret (cbL tab) none fi.np (Ends tab fi.res P) [.code fi.body] .normal (argE args) [] H) (hcon:fi.con=none:=by rfl) (hicon:fi.icon=none:=by rfl):∃o H',(cbL tab).ic f args H=some (o,H')/\P o H':=by
 rw[<-EV_fr0 fi.np]at h
 obtain⟨o,H',h1,h2⟩:=body_wp hl hf h
 refine⟨o,H',ic_of ?_,h2⟩
 rw[icA,ht]
 simp only[hcon,hicon,hon,Option.isSome_none,Bool.or_self,Bool.false_eq_true,if_false]
 exact h1
theorem pc_none {tab:FuncId->Option AFun} {f:FuncId} {fi:AFun} {args:List AV} (ht:tab f=some fi) (hon:pcOn fi args=false) (hcon:fi.con=none:=by rfl):(cbL tab).pc f args=none:=by
 cases hp:(cbL tab).pc f args with
 |none=>rfl
 | some r=>
   obtain⟨k,hk⟩:=cbL_pc.1 hp
   cases k with
   |zero=>cases hk
   | succ k=>
     have hk:pcA tab (cbs tab k) f args=some r:=hk
     rw[pcA,ht]at hk
     simp only[hcon,hon,Bool.false_eq_true,if_false]at hk
     cases hk
end Go.Am
